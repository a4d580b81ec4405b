/- This text proves, for each Go function named below, which plain Lean function its call computes, in whatever memory; a program of this session has written it. -/
import Derived.Test.YtilobbjnmnnmnaaGreatDoorOBkx0
import Derived.Test.YtilobbjnmnnmnaaGreatDoorOBkx3
import Derived.Test.YtilobbjnmnnmnaaGreatDoorOBkx4
namespace Go.Proofs.YtilobbjnmnnmnaaGreatDoor.OBk
open Go.RowKit Go.Proofs.YtilobbjnmnnmnaaGreatDoorW.PrintWords Go.Proofs.YtilobbjnmnnmnaaGreatDoorW.PrintLast Go.Proofs.YtilobbjnmnnmnaaGreatDoorW.PrintMore
attribute [local go_sem] max2_int min2_int max_two min_two max_three min_three max_four min_four   -- for this text's walks alone
set_option linter.unusedVariables false
set_option linter.unusedSimpArgs false

/-! ### slices_Reverse_string_string: function 109 -/
def slices_Reverse_string_string.l0 : Nat → List ByteArray → Int → Int → Option (List ByteArray)
  | 0, _, _, _ => none
  | k + 1, x0, x2, x3 => if x2 < x3 then (if 0 ≤ x3 then (if x3 < (x0.length : Int) then (if 0 ≤ x2 then (if x2 < (x0.length : Int) then (slices_Reverse_string_string.l0 k ((x0.set (x2 : Int).toNat (rdOf ByteArray.empty x0 x3)).set (x3 : Int).toNat (rdOf ByteArray.empty x0 x2)) (wrap64 (x2 + 1)) (wrap64 (x3 - 1))) else (none)) else (none)) else (none)) else (none)) else (some x0)
def slices_Reverse_string_string.f (k : Nat) (l0 : List ByteArray) : Option (List ByteArray) := slices_Reverse_string_string.l0 k l0 0 (wrap64 ((l0.length : Int) - 1))
theorem slices_Reverse_string_string.mono_l : ∀ k, (∀ y0 y1 y2, LeO (slices_Reverse_string_string.l0 k y0 y1 y2) (slices_Reverse_string_string.l0 (k + 1) y0 y1 y2))
  | 0 => fun _ _ _ r h => by simp [slices_Reverse_string_string.l0] at h
  | k + 1 => by
    have ih0 := slices_Reverse_string_string.mono_l k
    · intro y0 y1 y2
      unfold slices_Reverse_string_string.l0
      repeat' first
      | (with_reducible exact ih0 _ _ _)
      | (with_reducible exact LeO.refl _)
      | (with_reducible exact LeO.none _)
      | (with_reducible refine LeO.ite ?_ ?_)
      | (with_reducible refine LeO.bind ?_ (fun _ => ?_))
      | exact ih0 _ _ _
      | exact LeO.none _
      | refine LeO.ite ?_ ?_
      | refine LeO.bind ?_ (fun _ => ?_)
theorem slices_Reverse_string_string.mono : ∀ a0 k, LeO (slices_Reverse_string_string.f k a0) (slices_Reverse_string_string.f (k + 1) a0) := by
  intro a0 k
  have ih0 := slices_Reverse_string_string.mono_l k
  unfold slices_Reverse_string_string.f
  repeat' first
      | (with_reducible exact ih0 _ _ _)
      | (with_reducible exact LeO.refl _)
      | (with_reducible exact LeO.none _)
      | (with_reducible refine LeO.ite ?_ ?_)
      | (with_reducible refine LeO.bind ?_ (fun _ => ?_))
      | exact ih0 _ _ _
      | exact LeO.none _
      | refine LeO.ite ?_ ?_
      | refine LeO.bind ?_ (fun _ => ?_)
def slices_Reverse_string_string.T3 : Bool × List (List Nat × List Nat) := (true, [([], []), ([], []), ([], []), ([], []), ([], []), ([], []), ([4, 5], [4, 5]), ([6], [6]), ([], []), ([], []), ([8, 9], [8, 9]), ([10], [10]), ([0, 1, 0, 1, 4, 5, 6, 7, 11], [0, 1]), ([12, 7, 0, 1, 4, 5, 6, 7, 11], [7, 12]), ([2, 3, 0, 1, 2, 3, 4, 5, 6, 7, 8, 9, 10, 11, 12, 13], [2, 3]), ([14, 11, 13, 0, 1, 2, 3, 4, 5, 6, 7, 8, 9, 10, 11, 12, 13], [11, 14])])
def slices_Reverse_string_string.B3 : List Nat := [0, 0, 0, 0, 0, 0, 48, 112, 0, 0, 768, 1792, 4083, 8179, 16383, 32767]
theorem slices_Reverse_string_string.tab3 : rtab .any (opsOf Tryz.f109 3) = slices_Reverse_string_string.T3 := by kernel_rfl
theorem slices_Reverse_string_string.bits3 : waitsOk slices_Reverse_string_string.T3.2 slices_Reverse_string_string.B3 = true := by kernel_rfl
set_option maxHeartbeats 8000000 in
set_option maxRecDepth 100000 in
theorem slices_Reverse_string_string.calls (k : Nat) (P0_ : Nat → Prop) (u9000_ : Value) (l0 : List ByteArray) (r : List ByteArray) (w0 w : World) (hB : Below w0.heap.size w0 w) (ho0 : Kd.R Kd.string 9 w w0.heap.size P0_ u9000_ l0) (h : slices_Reverse_string_string.f k l0 = some r) :
    Calls Tryz.prog 109 #[u9000_] w fun e w' => e = .returned (.tuple #[]) ∧ Kd.R Kd.string 9 w' w0.heap.size (fun k_ => (P0_ k_ ∨ w.heap.size ≤ k_)) u9000_ r ∧ Below w0.heap.size w0 w' ∧ Kept w w' (fun k_ => P0_ k_) := by
  have HO0 := Aside0.mk (show Kd.R Kd.string 9 w w0.heap.size (fun k_ => (P0_ k_ ∨ w.heap.size ≤ k_)) u9000_ l0 from Kd.R_mono ho0 (fun k_ hk => (.inl hk)))
  have HK := Aside0.mk (Kept.refl w (fun k_ => P0_ k_))
  have HW0 := Aside0.mk hB.size
  have HB := Aside0.mk hB
  clear hB
  have H : (slices_Reverse_string_string.l0 k l0 0 (wrap64 ((l0.length : Int) - 1))) = some r := h
  clear h
  have H' := Aside0.mk H
  clear H
  obtain ⟨Ao2, co2, eo2⟩ := Kd.R_slice HO0.out
  subst eo2
  go_enter Tryz.func109, Tryz.ntmps109
  go_wp2
  go_loopg [2, 3] k (fun kq v2 v3 w' => ∃ (x0_1 : List ByteArray) (x2_1 : Int) (x3_1 : Int), v2 = .int .i64 x2_1 ∧ v3 = .int .i64 x3_1 ∧ Aside0 (slices_Reverse_string_string.l0 kq x0_1 x2_1 x3_1 = some r) ∧ Aside0 (kq ≤ k) ∧ Aside0 (Kd.R Kd.string 9 w' w0.heap.size (fun k_ => (P0_ k_ ∨ w.heap.size ≤ k_)) (.slice Ao2 l0.length co2) x0_1) ∧ Aside0 (Kept w w' (fun k_ => P0_ k_)) ∧ Aside0 (Below w0.heap.size w0 w'))
  case atStart => exact ⟨(l0), (0), (wrap64 ((l0.length : Int) - 1)), (by first | rfl | (simp; done) | (simp [*]; done)), (by first | rfl | (simp; done) | (simp [*]; done)), H', ⟨Nat.le_refl _⟩, ⟨by (with_reducible repeat (first | apply Kd.R_alloc | apply Kd.R_drewN | apply Kd.R_drew)); exact HO0.out⟩, ⟨by repeat (first | (with_reducible first | exact HK.out | apply Kept.alloc | apply Kept.drewN | apply Kept.drew) | exact HK.out)⟩, ⟨by repeat (first | (with_reducible first | exact HB.out | apply below_alloc | apply pw_below_drewN | apply below_drew1) | exact HB.out)⟩⟩
  case round =>
    clear H'
    try clear c1
    try clear p2
    obtain ⟨x0_1, x2_1, x3_1, rfl, rfl, HA, HK1, HO_0, HK, HB⟩ := hrel
    have hl0_1 := (Kd.R_reads' HO_0.out).1
    rw [hl0_1] at HO_0
    (try simp only [hl0_1])
    cases gk with
    | zero => exact absurd HA.out (by simp [slices_Reverse_string_string.l0])
    | succ k1 =>
      have H := HA.out
      clear HA
      simp only [slices_Reverse_string_string.l0] at H
      by_cases c3 : x2_1 < x3_1
      · rw [if_pos c3] at H
        have c3b0 : decide (x2_1 < x3_1) = true := decide_eq_true c3
        clear c3
        by_cases c4 : 0 ≤ x3_1
        · rw [if_pos c4] at H
          have c4b0 : decide (0 ≤ x3_1) = true := decide_eq_true c4
          clear c4
          by_cases c5 : x3_1 < (x0_1.length : Int)
          · rw [if_pos c5] at H
            have c5b0 : decide (x3_1 < (x0_1.length : Int)) = true := decide_eq_true c5
            clear c5
            by_cases c6 : 0 ≤ x2_1
            · rw [if_pos c6] at H
              have c6b0 : decide (0 ≤ x2_1) = true := decide_eq_true c6
              clear c6
              by_cases c7 : x2_1 < (x0_1.length : Int)
              · rw [if_pos c7] at H
                have c7b0 : decide (x2_1 < (x0_1.length : Int)) = true := decide_eq_true c7
                clear c7
                obtain ⟨y203, hy203⟩ : ∃ y_ : List ByteArray, y_ = (x0_1.set (x2_1 : Int).toNat (rdOf ByteArray.empty x0_1 x3_1)) := ⟨_, rfl⟩
                replace H : (slices_Reverse_string_string.l0 k1 (y203.set (x3_1 : Int).toNat (rdOf ByteArray.empty x0_1 x2_1)) (wrap64 (x2_1 + 1)) (wrap64 (x3_1 - 1))) = some r := by first | (rw [hy203]; with_reducible exact H) | (have H2_ := (Option.bind_some _ _).symm.trans H; rw [hy203]; with_reducible exact H2_) | (have H2_ := (Option.bind_some _ _).symm.trans H; with_reducible exact H2_) | with_reducible exact H | (rw [hy203]; exact H) | exact H
                have Ny203 := Aside0.mk hy203
                clear hy203
                obtain ⟨y204, hy204⟩ : ∃ y_ : List ByteArray, y_ = (y203.set (x3_1 : Int).toNat (rdOf ByteArray.empty x0_1 x2_1)) := ⟨_, rfl⟩
                replace H : (slices_Reverse_string_string.l0 k1 y204 (wrap64 (x2_1 + 1)) (wrap64 (x3_1 - 1))) = some r := by first | (rw [hy204]; with_reducible exact H) | (have H2_ := (Option.bind_some _ _).symm.trans H; rw [hy204]; with_reducible exact H2_) | (have H2_ := (Option.bind_some _ _).symm.trans H; with_reducible exact H2_) | with_reducible exact H | (rw [hy204]; exact H) | exact H
                have Ny204 := Aside0.mk hy204
                clear hy204
                have H' := Aside0.mk H
                clear H
                try go_wp2
                have n0_ := Aside0.mk (Kd.R_drew HO_0.out)
                have n1_ := Aside0.mk (Kept.drew HK.out)
                have n2_ := Aside0.mk (below_drew1 HB.out)
                clear HO_0
                clear HK
                clear HB
                have HO_0 := n0_
                have HK := n1_
                have HB := n2_
                clear n0_ n1_ n2_
                have p201 : 0 ≤ (x3_1 : Int) := of_decide_eq_true (by first | (with_reducible assumption) | assumption)
                have q201 : x3_1 < (x0_1.length : Int) := of_decide_eq_true (by first | (with_reducible assumption) | assumption)
                obtain ⟨ad201, e201, hx201_0⟩ := Kd.at_string (Kd.R_reads' HO_0.out).2.2 x3_1 p201 q201
                cases e201
                replace p201 := eq_true p201
                replace q201 := eq_true q201
                have p202 : 0 ≤ (x2_1 : Int) := of_decide_eq_true (by first | (with_reducible assumption) | assumption)
                have q202 : x2_1 < (x0_1.length : Int) := of_decide_eq_true (by first | (with_reducible assumption) | assumption)
                obtain ⟨ad202, e202, hx202_0⟩ := Kd.at_string (Kd.R_reads' HO_0.out).2.2 x2_1 p202 q202
                obtain rfl : ad201 = ad202 := (by injection e202)
                replace p202 := eq_true p202
                replace q202 := eq_true q202
                have p8 : 0 ≤ (x2_1 : Int) := of_decide_eq_true (by first | (with_reducible assumption) | assumption)
                have q8 : (x2_1 : Int) < ((x0_1.length : Int) : Int) := of_decide_eq_true (by first | (with_reducible assumption) | assumption)
                obtain ⟨go8, co8, eo8, gb8, gl8, cl8, HG8⟩ := Kd.R_form HO_0.out (by omega)
                (first | cases eo8 | (injection eo8 with ea_ en_ ec_; (first | subst ea_ | (injection ea_ with ea_; subst ea_)); subst ec_; clear en_))
                have GB8 := Aside0.mk gb8
                have GG8 := Aside0.mk HG8
                clear gb8 gl8 HG8
                have HMgo8 := Aside0.mk (show (P0_ go8 ∨ w.heap.size ≤ go8) from (HO_0.out.1 _ rfl))
                (first | simp only [add_plain] at hx201_0 | skip)
                (first | simp only [add_plain] at hx202_0 | skip)
                obtain ⟨hx8_0, hf8_0⟩ := Kd.R_celln (⟨#[]⟩ : ByteArray) HO_0.out (x2_1 : Int) p8 q8
                replace p8 := eq_true p8
                replace q8 := eq_true q8
                have HP11 := Kd.R_putn HO_0.out (x2_1 : Int) (rdOf ByteArray.empty x0_1 x3_1)
                rw [← Ny203.out] at HP11
                have HQ11 := Aside0.mk HP11
                clear HP11
                have p9 : 0 ≤ (x3_1 : Int) := of_decide_eq_true (by first | (with_reducible assumption) | assumption)
                have q9 : (x3_1 : Int) < ((x0_1.length : Int) : Int) := of_decide_eq_true (by first | (with_reducible assumption) | assumption)
                obtain ⟨hx9_0, hf9_0⟩ := Kd.R_celln (⟨#[]⟩ : ByteArray) HQ11.out (x3_1 : Int) p9 q9
                replace p9 := eq_true p9
                replace q9 := eq_true q9
                have HP12 := Kd.R_putn HQ11.out (x3_1 : Int) (rdOf ByteArray.empty x0_1 x2_1)
                rw [← Ny204.out] at HP12
                have HQ12 := Aside0.mk HP12
                clear HP12
                refine start_ (n := 16) (S := fun w' => w'.cell? ⟨go8, (x3_1).toNat, none⟩ = some (.string (rdOf ByteArray.empty x0_1 x3_1)) ∧ w'.cell? ⟨go8, (x2_1).toNat, none⟩ = some (.string (rdOf ByteArray.empty x0_1 x2_1))) (ds := [13, 15]) #[false, false, false, false, false, false, false, false, false, false, false, false, false, false, false, false] (by kernel_rfl) rfl rfl ⟨hx201_0, hx202_0⟩ (fun hHeld => ?_); refine with_tabW slices_Reverse_string_string.tab3 slices_Reverse_string_string.bits3 (fun HT_ HW_ => ?_)
                generalize wr.drew = w10 at HO_0 HK HB GG8 HQ11 HQ12 hf8_0 hf9_0 hx201_0 hx202_0 hx8_0 hx9_0 hHeld ⊢
                refine pure_ (i := 0) (N := some 14) (v := ?_) (a' := ?_) #[true, false, false, false, false, false, false, false, false, false, false, false, false, false, false, false] rfl rfl (any_of HT_.out (by kernel_rfl)) (fun _ _ _ h => h) (Or.inl ⟨by rfl, ?_⟩) ?_ ?_
                rotate_left
                · intro w'
                  go_simp
                  with_reducible rfl
                rotate_left
                · simp only [Act.put, List.setIfInBounds_toArray, List.set_cons_zero, List.set_cons_succ, i64_w, i32_w]
                  rfl
                refine pure_ (i := 1) (N := some 15) (v := ?_) (a' := ?_) #[true, true, false, false, false, false, false, false, false, false, false, false, false, false, false, false] rfl rfl (any_of HT_.out (by kernel_rfl)) (fun _ _ _ h => h) (Or.inl ⟨by rfl, ?_⟩) ?_ ?_
                rotate_left
                · intro w'
                  go_simp
                  with_reducible rfl
                rotate_left
                · simp only [Act.put, List.setIfInBounds_toArray, List.set_cons_zero, List.set_cons_succ, i64_w, i32_w]
                  rfl
                refine pure_ (i := 2) (N := some 16) (v := ?_) (a' := ?_) #[true, true, true, false, false, false, false, false, false, false, false, false, false, false, false, false] rfl rfl (any_of HT_.out (by kernel_rfl)) (fun _ _ _ h => h) (Or.inl ⟨by rfl, ?_⟩) ?_ ?_
                rotate_left
                · intro w'
                  go_simp
                  with_reducible rfl
                rotate_left
                · simp only [Act.put, List.setIfInBounds_toArray, List.set_cons_zero, List.set_cons_succ, i64_w, i32_w]
                  rfl
                refine pure_ (i := 3) (N := some 17) (v := ?_) (a' := ?_) #[true, true, true, true, false, false, false, false, false, false, false, false, false, false, false, false] rfl rfl (any_of HT_.out (by kernel_rfl)) (fun _ _ _ h => h) (Or.inl ⟨by rfl, ?_⟩) ?_ ?_
                rotate_left
                · intro w'
                  go_simp
                  with_reducible rfl
                rotate_left
                · simp only [Act.put, List.setIfInBounds_toArray, List.set_cons_zero, List.set_cons_succ, i64_w, i32_w]
                  rfl
                refine pure_ (i := 4) (N := some 18) (v := ?_) (a' := ?_) #[true, true, true, true, true, false, false, false, false, false, false, false, false, false, false, false] rfl rfl (any_of HT_.out (by kernel_rfl)) (fun _ _ _ h => h) (Or.inl ⟨by rfl, ?_⟩) ?_ ?_
                rotate_left
                · intro w'
                  go_simp
                  with_reducible rfl
                rotate_left
                · simp only [Act.put, List.setIfInBounds_toArray, List.set_cons_zero, List.set_cons_succ, i64_w, i32_w]
                  rfl
                refine pure_ (i := 5) (N := some 19) (v := ?_) (a' := ?_) #[true, true, true, true, true, true, false, false, false, false, false, false, false, false, false, false] rfl rfl (any_of HT_.out (by kernel_rfl)) (fun _ _ _ h => h) (Or.inl ⟨by rfl, ?_⟩) ?_ ?_
                rotate_left
                · intro w'
                  go_simp
                  with_reducible rfl
                rotate_left
                · simp only [Act.put, List.setIfInBounds_toArray, List.set_cons_zero, List.set_cons_succ, i64_w, i32_w]
                  rfl
                refine pure_ (i := 6) (N := some 20) (v := ?_) (a' := ?_) #[true, true, true, true, true, true, true, false, false, false, false, false, false, false, false, false] rfl rfl (any_of HT_.out (by kernel_rfl)) (fun _ _ _ h => h) (Or.inl ⟨by rfl, ?_⟩) ?_ ?_
                rotate_left
                · intro w'
                  go_simp
                  with_reducible rfl
                rotate_left
                · simp only [Act.put, List.setIfInBounds_toArray, List.set_cons_zero, List.set_cons_succ, i64_w, i32_w]
                  rfl
                refine pure_ (i := 8) (N := some 22) (v := ?_) (a' := ?_) #[true, true, true, true, true, true, true, false, true, false, false, false, false, false, false, false] rfl rfl (any_of HT_.out (by kernel_rfl)) (fun _ _ _ h => h) (Or.inl ⟨by rfl, ?_⟩) ?_ ?_
                rotate_left
                · intro w'
                  go_simp
                  with_reducible rfl
                rotate_left
                · simp only [Act.put, List.setIfInBounds_toArray, List.set_cons_zero, List.set_cons_succ, i64_w, i32_w]
                  rfl
                refine pure_ (i := 9) (N := some 23) (v := ?_) (a' := ?_) #[true, true, true, true, true, true, true, false, true, true, false, false, false, false, false, false] rfl rfl (any_of HT_.out (by kernel_rfl)) (fun _ _ _ h => h) (Or.inl ⟨by rfl, ?_⟩) ?_ ?_
                rotate_left
                · intro w'
                  go_simp
                  with_reducible rfl
                rotate_left
                · simp only [Act.put, List.setIfInBounds_toArray, List.set_cons_zero, List.set_cons_succ, i64_w, i32_w]
                  rfl
                refine pure_ (i := 10) (N := some 24) (v := ?_) (a' := ?_) #[true, true, true, true, true, true, true, false, true, true, true, false, false, false, false, false] rfl rfl (any_of HT_.out (by kernel_rfl)) (fun _ _ _ h => h) (Or.inl ⟨by rfl, ?_⟩) ?_ ?_
                rotate_left
                · intro w'
                  go_simp
                  with_reducible rfl
                rotate_left
                · simp only [Act.put, List.setIfInBounds_toArray, List.set_cons_zero, List.set_cons_succ, i64_w, i32_w]
                  rfl
                refine take_ (i := 7) (N := some 21) (v := ?_) (a' := ?_) #[true, true, true, true, true, true, true, true, true, true, true, false, false, false, false, false] rfl rfl (take_ofW HT_.out HW_.out (by kernel_rfl)) (fun _ _ _ h => h) (Or.inl ⟨by rfl, ?_⟩) hHeld ?_ ?_
                rotate_left
                · rintro w' ⟨s0, s1⟩
                  go_simp
                  with_reducible rfl
                rotate_left
                · simp only [Act.put, List.setIfInBounds_toArray, List.set_cons_zero, List.set_cons_succ, i64_w, i32_w]
                  rfl
                refine take_ (i := 11) (N := some 25) (v := ?_) (a' := ?_) #[true, true, true, true, true, true, true, true, true, true, true, true, false, false, false, false] rfl rfl (take_ofW HT_.out HW_.out (by kernel_rfl)) (fun _ _ _ h => h) (Or.inl ⟨by rfl, ?_⟩) hHeld ?_ ?_
                rotate_left
                · rintro w' ⟨s0, s1⟩
                  go_simp
                  with_reducible rfl
                rotate_left
                · simp only [Act.put, List.setIfInBounds_toArray, List.set_cons_zero, List.set_cons_succ, i64_w, i32_w]
                  rfl
                refine pure_ (i := 12) (N := some 26) (v := ?_) (a' := ?_) #[true, true, true, true, true, true, true, true, true, true, true, true, true, false, false, false] rfl rfl (any_of HT_.out (by kernel_rfl)) (fun _ _ _ h => h) (Or.inl ⟨by rfl, ?_⟩) ?_ ?_
                rotate_left
                · intro w'
                  go_simp
                  with_reducible rfl
                rotate_left
                · simp only [Act.put, List.setIfInBounds_toArray, List.set_cons_zero, List.set_cons_succ, i64_w, i32_w]
                  rfl
                refine last_ (i := 13) (N := none) #[true, true, true, true, true, true, true, true, true, true, true, true, true, true, false, false] rfl rfl (one_of HT_.out (by kernel_rfl)) (by decide) (fun K hK => ?_)
                refine skip_ (w1 := ?_) (by rfl) rfl ?_ ?_
                rotate_left
                · go_simp
                  rfl
                refine hK.out _ _ ?_
                clear hK K
                refine pure_ (i := 14) (N := some 27) (v := ?_) (a' := ?_) #[true, true, true, true, true, true, true, true, true, true, true, true, true, true, true, false] rfl rfl (any_of HT_.out (by kernel_rfl)) (fun _ _ _ h => h) (Or.inl ⟨by rfl, ?_⟩) ?_ ?_
                rotate_left
                · intro w'
                  go_simp
                  with_reducible rfl
                rotate_left
                · simp only [Act.put, List.setIfInBounds_toArray, List.set_cons_zero, List.set_cons_succ, i64_w, i32_w]
                  rfl
                refine last_ (i := 15) (N := none) #[true, true, true, true, true, true, true, true, true, true, true, true, true, true, true, true] rfl rfl (one_of HT_.out (by kernel_rfl)) (by decide) (fun K hK => ?_)
                refine skip_ (w1 := ?_) (by rfl) rfl ?_ ?_
                rotate_left
                · go_simp
                  rfl
                refine hK.out _ _ ?_
                clear hK K
                refine done_ (done_of HT_.out (by kernel_rfl)) ?_
                try go_wp2
                (try simp only [← hl0_1])
                go_roundg k1
                case measure => have := HK1.out; omega
                case rel => exact ⟨(y204), (wrap64 (x2_1 + 1)), (wrap64 (x3_1 - 1)), (by first | rfl | (simp; done) | (simp [*]; done)), (by first | rfl | (simp; done) | (simp [*]; done)), H', ⟨by have := HK1.out; omega⟩, ⟨by (try simp only [hl0_1]); (with_reducible repeat (first | apply Kd.R_alloc | apply Kd.R_drewN | apply Kd.R_drew)); exact HQ12.out⟩, ⟨by repeat (first | (with_reducible first | exact HK.out | apply Kept.alloc | apply Kept.drewN | apply Kept.drew | refine Kept.setCell ?_ HMgo8.out _ | refine Kept.setCell ?_ HMgo8.out _) | exact HK.out)⟩, ⟨by repeat (first | (with_reducible first | exact HB.out | apply below_alloc | apply pw_below_drewN | apply below_drew1 | refine below_set ?_ GB8.out | refine below_set ?_ GB8.out) | exact HB.out)⟩⟩
              · rw [if_neg c7] at H
                exact absurd H (by simp)
            · rw [if_neg c6] at H
              exact absurd H (by simp)
          · rw [if_neg c5] at H
            exact absurd H (by simp)
        · rw [if_neg c4] at H
          exact absurd H (by simp)
      · rw [if_neg c3] at H
        have c3b0 : decide (x2_1 < x3_1) = false := decide_eq_false c3
        clear c3
        obtain rfl := Option.some.inj H
        go_wp2
        first | go_end0 | ((try simp only [Exit.inBlock, Exit.then]); refine bodyPost_ret (results_none rfl _ _ _) rfl ?_)
        exact ⟨by first | rfl | (simp [errW_none, errW_some] <;> rfl) | (simp [*, errW_none, errW_some] <;> rfl), (by first | exact (by (with_reducible repeat (first | apply Kd.R_alloc | apply Kd.R_drewN | apply Kd.R_drew)); exact HO_0.out) | (simp only [hl0_1]; exact (by (with_reducible repeat (first | apply Kd.R_alloc | apply Kd.R_drewN | apply Kd.R_drew)); exact HO_0.out))), by repeat (first | (with_reducible first | exact HB.out | apply below_alloc | apply pw_below_drewN | apply below_drew1) | exact HB.out), by repeat (first | (with_reducible first | exact HK.out | apply Kept.alloc | apply Kept.drewN | apply Kept.drew) | exact HK.out)⟩

-- NOT PRINTED: function 110 (slices_Chunk_string_string)

-- NOT PRINTED: function 77 (addr_back)

-- NOT PRINTED: function 111 (slices_EqualFunc_string_string_string_string)

-- NOT PRINTED: function 178 (bytealg_abigen_runtime_cmpstring)

-- NOT PRINTED: function 168 (bytealg_CompareString)

/-! ### strings_Compare: function 146; out of the shelf -/
def strings_Compare.f (a0 : ByteArray) (a1 : ByteArray) : Option (Int) := some (Lib.compareBytes a0.data.toList a1.data.toList)
theorem strings_Compare.calls (a0 : ByteArray) (a1 : ByteArray) (r : Int) (w : World) (h : strings_Compare.f a0 a1 = some r) :
    Calls Tryz.prog 146 #[.string a0, .string a1] w fun e w' => e = .returned (.int .i64 r) ∧ Drawn0 w w' := by
  obtain rfl := Option.some.inj h
  exact (Tryz.strings_Compare a0 a1 w).mono fun e w' ⟨he, hw⟩ => ⟨he, by rw [hw]; exact Drawn0.refl _⟩

-- NOT PRINTED: function 170 (label_each)

/-! ### label_Fold: function 147; by hand: the callee that takes the function is walked for this function alone -/
theorem label_Fold.low_ (c : Int) (h0 : 0 ≤ c) (h1 : c ≤ 255) (w : World) : Calls Tryz.prog 169 #[.int .u8 c] w fun e w' => e = .returned (.int .u8 (foldI c)) ∧ w = w' := by
  by_cases hA : 65 ≤ c
  · by_cases hZ : c ≤ 90
    · have hF := Aside0.mk (show foldI c = c + 32 by unfold foldI; rw [if_pos hA, if_pos hZ])
      go_enter Tryz.func169, Tryz.ntmps169
      go_wp2
      go_ret
      exact ⟨ret_int_ (by rw [hF.out]; omega), rfl⟩
    · have hF := Aside0.mk (show foldI c = c by unfold foldI; rw [if_pos hA, if_neg hZ])
      have hZ' : decide (c ≤ 90) = false := by simpa using hZ
      go_enter Tryz.func169, Tryz.ntmps169
      go_wp2
      go_ret
      exact ⟨ret_int_ hF.out.symm, rfl⟩
  · have hF := Aside0.mk (show foldI c = c by unfold foldI; rw [if_neg hA])
    have hA' : decide (65 ≤ c) = false := by simpa using hA
    go_enter Tryz.func169, Tryz.ntmps169
    go_wp2
    go_ret
    exact ⟨ret_int_ hF.out.symm, rfl⟩

set_option maxHeartbeats 1000000 in
set_option maxRecDepth 100000 in
theorem label_Fold.each_ (s : ByteArray) (w : World) (hs : s.size ≤ 9223372036854775807) : Calls Tryz.prog 170 #[.string s, .func (.func 169) #[] #[]] w fun e w' => e = .returned (.string (strOfNums ((bytesOf s).map foldI))) ∧ Below w.heap.size w w' := by
  have HB := Aside0.mk (Below.refl w.heap.size w)
  go_enter Tryz.func170, Tryz.ntmps170
  go_wp2_with (first | ((with_reducible refine gate_dst (N := 9) rfl ?_); refine conv_row_event (src := 9) (dst := 79) (e := 5) (s := s) (w := w) rfl (N := 9) rfl Tryz.underlying9 Tryz.underlying79 Tryz.underlying5 ?cvr hs HB.out ?_; (case cvr => intro kb_; first | (go_simp; done) | (go_simp; rfl)); intro g c w1 hrow hc hg hb; have HROW := Aside0.mk hrow; have HB2 := Aside0.mk hb; have HC := Aside0.mk hc; clear hrow hb hc))
  obtain ⟨xs, hxs⟩ : ∃ xs, xs = bytesOf s := ⟨_, rfl⟩
  rw [← hxs] at HROW HC ⊢
  have HXS := Aside0.mk hxs
  have HL := Aside0.mk (show xs.length ≤ 9223372036854775807 by rw [hxs, bytesOf_length]; exact hs)
  clear hxs
  go_loopw [12] (fun i wr => ∃ k : Nat, k ≤ xs.length ∧ i = .int .i64 k ∧ Aside0 (ConvRow wr 5 g xs.length (foldTo xs k)) ∧ Aside0 (Below w.heap.size w wr)) (fun i _ => xs.length - (intOf i).toNat)
  case atStart => exact ⟨0, Nat.zero_le _, rfl, ⟨by rw [foldTo_zero]; exact HROW.out⟩, HB2⟩
  case round =>
    clear HROW HB2 HB
    obtain ⟨k, hk, rfl, HR, HB⟩ := hrel
    by_cases hlt : k < xs.length
    · have hx := HR.out.cell k hlt
      have hf := HR.out.free k hlt
      rw [foldTo_at xs k hlt] at hx
      have hb0 : 0 ≤ xs.getD k 0 ∧ xs.getD k 0 ≤ 255 := by rw [HXS.out]; exact byte_range_ s k
      obtain ⟨hb0, hb1⟩ := hb0
      have hL := HL.out
      have HS := Aside0.mk (show ConvRow (wr.setCell ⟨g, k, none⟩ (.int .u8 (foldI (xs.getD k 0)))) 5 g xs.length (foldTo xs (k + 1)) by rw [← foldTo_set xs k hlt]; exact HR.out.set k (foldI (xs.getD k 0)))
      generalize xs.getD k 0 = x at hx hb0 hb1 HS
      go_wp2_with (go_at_call 169; (with_reducible refine (label_Fold.low_ x hb0 hb1 _).mono ?_); rintro e w' ⟨rfl, rfl⟩)
      go_roundw
      case rel => exact ⟨k + 1, by omega, by go_num, HS, ⟨below_set HB.out hg⟩⟩
      case measure => simp [intOf]; omega
    · have hk' : k = xs.length := by omega
      subst hk'
      have hcv := Kd.C_string (P := Tryz.prog) (A := some ⟨g, 0, none⟩) (c := c) Tryz.underlying79 Tryz.underlying5 Tryz.underlying9 HR.out.reads
      have hL := HL.out
      go_wp2
      go_ret
      exact ⟨by rw [← HXS.out, ← foldTo_all xs]; rfl, HB.out⟩
def label_Fold.f (a0 : ByteArray) : Option (ByteArray) := if a0.size ≤ 9223372036854775807 then (some (foldS a0)) else (none)
theorem label_Fold.calls (a0 : ByteArray) (r : ByteArray) (w : World) (h : label_Fold.f a0 = some r) :
    Calls Tryz.prog 147 #[.string a0] w fun e w' => e = .returned (.string r) ∧ Below w.heap.size w w' := by
  unfold label_Fold.f at h
  by_cases hs : a0.size ≤ 9223372036854775807
  · rw [if_pos hs] at h
    obtain rfl := Option.some.inj h
    have HE := Aside0.mk (fun W => label_Fold.each_ a0 W hs)
    clear h
    go_enter Tryz.func147, Tryz.ntmps147
    go_wp2_with (go_at_call 170; (with_reducible refine (HE.out _).mono ?_); rintro e w' ⟨rfl, hb⟩)
    go_ret
    exact ⟨rfl, hb⟩
  · rw [if_neg hs] at h
    cases h

/-! ### label_Compare: function 128 -/
def label_Compare.f (a0 : ByteArray) (a1 : ByteArray) : Option (Int) := (label_Fold.f a0).bind fun t205 => ((label_Fold.f a1).bind fun t206 => ((strings_Compare.f t205 t206).bind fun t207 => (some t207)))
set_option maxHeartbeats 8000000 in
set_option maxRecDepth 100000 in
theorem label_Compare.calls (a0 : ByteArray) (a1 : ByteArray) (r : Int) (w : World) (h : label_Compare.f a0 a1 = some r) :
    Calls Tryz.prog 128 #[.string a0, .string a1] w fun e w' => e = .returned (.int .i64 r) ∧ Below w.heap.size w w' := by
  have HB := Aside0.mk (Below.refl w.heap.size w)
  have H : ((label_Fold.f a0).bind fun t205 => ((label_Fold.f a1).bind fun t206 => ((strings_Compare.f t205 t206).bind fun t207 => (some t207)))) = some r := h
  clear h
  replace H := Option.bind_eq_some_iff.mp H
  obtain ⟨t205, A30, H⟩ := H
  replace H : ((label_Fold.f a1).bind fun t206 => ((strings_Compare.f t205 t206).bind fun t207 => (some t207))) = some r := H
  have A3 := Aside0.mk A30
  clear A30
  replace H := Option.bind_eq_some_iff.mp H
  obtain ⟨t206, A40, H⟩ := H
  replace H : ((strings_Compare.f t205 t206).bind fun t207 => (some t207)) = some r := H
  have A4 := Aside0.mk A40
  clear A40
  replace H := Option.bind_eq_some_iff.mp H
  obtain ⟨t207, A50, H⟩ := H
  replace H : (some t207) = some r := H
  have A5 := Aside0.mk A50
  clear A50
  obtain rfl := Option.some.inj H
  go_enter Tryz.func128, Tryz.ntmps128
  go_wp2_with (first | ((with_reducible refine gate_callee (f := 147) rfl ?_); refine goesL_ (some 6) rfl rfl Tryz.func147 (by kernel_rfl) rfl #[.string a0] rfl (by (try simp only [List.map_toArray, List.map_cons, List.map_nil]); first | done | rfl | (simp only [List.length_drop, List.length_take]; rfl)) ?_; (with_reducible refine (label_Fold.calls a0 t205 _ A3.out).mono ?_); rintro e w6 ⟨rfl, hb⟩; refine ⟨_, rfl, ?_⟩; have n0_ := Aside0.mk (below_step (by repeat (first | (with_reducible first | exact HB.out | apply below_alloc | apply pw_below_drewN | apply below_drew1) | exact HB.out)) hb); clear HB; have HB := n0_; clear n0_; (try clear hb); (try clear hb2); (try clear hk); (try clear hi)) | ((with_reducible refine gate_callee (f := 147) rfl ?_); refine goesL_ (some 8) rfl rfl Tryz.func147 (by kernel_rfl) rfl #[.string a1] rfl (by (try simp only [List.map_toArray, List.map_cons, List.map_nil]); first | done | rfl | (simp only [List.length_drop, List.length_take]; rfl)) ?_; (with_reducible refine (label_Fold.calls a1 t206 _ A4.out).mono ?_); rintro e w7 ⟨rfl, hb⟩; refine ⟨_, rfl, ?_⟩; have n0_ := Aside0.mk (below_step (by repeat (first | (with_reducible first | exact HB.out | apply below_alloc | apply pw_below_drewN | apply below_drew1) | exact HB.out)) hb); clear HB; have HB := n0_; clear n0_; (try clear hb); (try clear hb2); (try clear hk); (try clear hi)) | ((with_reducible refine gate_callee (f := 146) rfl ?_); refine goesL_ (some 9) rfl rfl Tryz.func146 (by kernel_rfl) rfl #[.string t205, .string t206] rfl (by (try simp only [List.map_toArray, List.map_cons, List.map_nil]); first | done | rfl | (simp only [List.length_drop, List.length_take]; rfl)) ?_; (with_reducible refine (strings_Compare.calls t205 t206 t207 _ A5.out).mono ?_); rintro e w' ⟨rfl, ⟨nd, rfl⟩⟩; refine ⟨_, rfl, ?_⟩))
  go_ret
  exact ⟨by first | rfl | (simp [errW_none, errW_some] <;> rfl) | (simp [*, errW_none, errW_some] <;> rfl), by repeat (first | (with_reducible first | exact HB.out | apply below_alloc | apply pw_below_drewN | apply below_drew1) | exact HB.out)⟩

/-! ### label_Same: function 112 -/
def label_Same.f (a0 : ByteArray) (a1 : ByteArray) : Option (Bool) := (label_Compare.f a0 a1).bind fun t208 => (some (t208 == 0))
set_option maxHeartbeats 8000000 in
set_option maxRecDepth 100000 in
theorem label_Same.calls (a0 : ByteArray) (a1 : ByteArray) (r : Bool) (w : World) (h : label_Same.f a0 a1 = some r) :
    Calls Tryz.prog 112 #[.string a0, .string a1] w fun e w' => e = .returned (.bool r) ∧ Below w.heap.size w w' := by
  have HB := Aside0.mk (Below.refl w.heap.size w)
  have H : ((label_Compare.f a0 a1).bind fun t208 => (some (t208 == 0))) = some r := h
  clear h
  replace H := Option.bind_eq_some_iff.mp H
  obtain ⟨t208, A30, H⟩ := H
  replace H : (some (t208 == 0)) = some r := H
  have A3 := Aside0.mk A30
  clear A30
  obtain rfl := Option.some.inj H
  go_enter Tryz.func112, Tryz.ntmps112
  go_wp2_with (first | ((with_reducible refine gate_callee (f := 128) rfl ?_); refine goesL_ (some 7) rfl rfl Tryz.func128 (by kernel_rfl) rfl #[.string a0, .string a1] rfl (by (try simp only [List.map_toArray, List.map_cons, List.map_nil]); first | done | rfl | (simp only [List.length_drop, List.length_take]; rfl)) ?_; (with_reducible refine (label_Compare.calls a0 a1 t208 _ A3.out).mono ?_); rintro e w4 ⟨rfl, hb⟩; refine ⟨_, rfl, ?_⟩; have n0_ := Aside0.mk (below_step (by repeat (first | (with_reducible first | exact HB.out | apply below_alloc | apply pw_below_drewN | apply below_drew1) | exact HB.out)) hb); clear HB; have HB := n0_; clear n0_; (try clear hb); (try clear hb2); (try clear hk); (try clear hi)))
  go_ret
  exact ⟨by first | rfl | (simp [errW_none, errW_some] <;> rfl) | (simp [*, errW_none, errW_some] <;> rfl), by repeat (first | (with_reducible first | exact HB.out | apply below_alloc | apply pw_below_drewN | apply below_drew1) | exact HB.out)⟩

def allSame (l : List (ByteArray × ByteArray)) : Option Bool := if l.all (fun p => (label_Same.f p.1 p.2).isSome) then some (l.all fun p => label_Same.f p.1 p.2 == some true) else none
theorem name_Labels_le {k : Nat} {a : ByteArray} {r : List ByteArray} (h : name_Labels.f k a = some r) : r.length ≤ 254 := by
  unfold name_Labels.f at h
  cases hk : name_Check.f k a with
  | none => rw [hk] at h; cases h
  | some t =>
    rw [hk, Option.bind_some] at h
    by_cases ht : t = 0
    · rw [if_pos ht] at h
      by_cases hs : a.size ≤ 254 ∧ (labelsP a).length ≤ 254
      · rw [if_pos hs] at h
        obtain rfl := Option.some.inj h
        exact hs.2
      · rw [if_neg hs] at h; cases h
    · rw [if_neg ht] at h
      obtain rfl := Option.some.inj h
      exact Nat.zero_le _
theorem rdOf_at {l : List ByteArray} {m : Nat} (h : m < l.length) : rdOf ByteArray.empty l (m : Int) = l[m] := by
  unfold rdOf
  simp [List.getD, h]
theorem allSame_at {y z : List ByteArray} {r : Bool} (hl : z.length = y.length) (h : allSame (y.zip z) = some r) {m : Nat} (hm : m < y.length) :
    ∃ b, label_Same.f (rdOf ByteArray.empty y (m : Int)) (rdOf ByteArray.empty z (m : Int)) = some b ∧ (b = false → r = false) := by
  unfold allSame at h
  have hz : m < z.length := by omega
  rw [rdOf_at hm, rdOf_at hz]
  have hmem : (y[m], z[m]) ∈ y.zip z := by
    have : (y.zip z)[m]'(by simp; omega) = (y[m], z[m]) := by simp
    rw [← this]
    exact List.getElem_mem _
  by_cases c : (y.zip z).all (fun p => (label_Same.f p.1 p.2).isSome) = true
  · rw [if_pos c] at h
    obtain rfl := Option.some.inj h
    have h1 := List.all_eq_true.1 c _ hmem
    obtain ⟨b, hb⟩ := Option.isSome_iff_exists.1 h1
    refine ⟨b, hb, fun hf => ?_⟩
    subst hf
    rw [List.all_eq_false]
    refine ⟨_, hmem, ?_⟩
    rw [hb]
    simp
  · rw [if_neg c] at h; cases h
theorem allSame_true {y z : List ByteArray} {r : Bool} (hl : z.length = y.length) (h : allSame (y.zip z) = some r) (ht : ∀ m : Nat, m < y.length → label_Same.f (rdOf ByteArray.empty y (m : Int)) (rdOf ByteArray.empty z (m : Int)) = some true) : r = true := by
  unfold allSame at h
  by_cases c : (y.zip z).all (fun p => (label_Same.f p.1 p.2).isSome) = true
  · rw [if_pos c] at h
    obtain rfl := Option.some.inj h
    rw [List.all_eq_true]
    intro p hp
    obtain ⟨m, hm, rfl⟩ := List.getElem_of_mem hp
    have hm' : m < y.length := by simp at hm; omega
    have := ht m hm'
    rw [rdOf_at hm', rdOf_at (by omega)] at this
    simp [this]
  · rw [if_neg c] at h; cases h
section
open Go.Shelf
attribute [local go_sem] Oper.semAt_some
set_option maxRecDepth 100000 in
set_option maxHeartbeats 2000000 in
theorem eqf_len (A0 A1 : Option Addr) (c0 c1 : Nat) (x y : List ByteArray) (hne : x.length ≠ y.length) (w : World) :
    Calls Tryz.prog 111 #[.slice A0 x.length c0, .slice A1 y.length c1, .func (.func 112) #[] #[]] w fun e w' => e = .returned (.bool false) ∧ Below w.heap.size w w' := by
  have h1 : ((x.length : Int) == (y.length : Int)) = false := beq_eq_false_iff_ne.2 (by omega)
  have h2 : ((x.length : Int) != (y.length : Int)) = true := bne_iff_ne.2 (by omega)
  go_enter Tryz.func111, Tryz.ntmps111
  go_wp2
  go_ret
  exact ⟨rfl, Below.refl _ _⟩
set_option maxRecDepth 100000 in
set_option maxHeartbeats 2000000 in
theorem eqf_same (A0 A1 : Option Addr) (c0 c1 : Nat) (x y : List ByteArray) (r : Bool) (hx254 : x.length ≤ 254) (hl : x.length = y.length) (hr : allSame (x.zip y) = some r) (w : World) (hC0 : Kd.C Kd.string w A0 x.length x) (hC1 : Kd.C Kd.string w A1 y.length y) :
    Calls Tryz.prog 111 #[.slice A0 x.length c0, .slice A1 y.length c1, .func (.func 112) #[] #[]] w fun e w' => e = .returned (.bool r) ∧ Below w.heap.size w w' := by
  have HR := Aside0.mk hr
  clear hr
  have h1 : ((x.length : Int) == (y.length : Int)) = true := beq_iff_eq.2 (by omega)
  have h2 : ((x.length : Int) != (y.length : Int)) = false := bne_eq_false_iff_eq.2 (by omega)
  have HL := Aside0.mk hl
  clear hl
  go_enter Tryz.func111, Tryz.ntmps111
  go_wp2
  go_loopg [17] x.length (fun kq v17 w' => ∃ n : Nat, v17 = .int .i64 (n : Int) ∧ Aside0 (n + kq = x.length) ∧ Aside0 (∀ m : Nat, m < n → label_Same.f (rdOf ByteArray.empty x (m : Int)) (rdOf ByteArray.empty y (m : Int)) = some true) ∧ Aside0 (Below w.heap.size w w'))
  case atStart => exact ⟨0, rfl, ⟨by omega⟩, ⟨fun m hm => absurd hm (Nat.not_lt_zero _)⟩, ⟨by first | exact Below.refl _ _ | exact pw_below_drewN (Below.refl _ _) _⟩⟩
  case round =>
    obtain ⟨n, rfl, HA, HC, HB⟩ := hrel
    have hA := HA.out
    have hB := HB.out
    by_cases hn : n < x.length
    · obtain ⟨b, hb, hbr⟩ := allSame_at HL.out.symm HR.out hn
      obtain ⟨ad, e1, hx⟩ := Kd.at_string (Kd.C_below hC0 hB) (n : Int) (by omega) (by omega)
      subst e1
      obtain ⟨ad1, e1, hy⟩ := Kd.at_string (Kd.C_below hC1 hB) (n : Int) (by omega) (by have := HL.out; omega)
      subst e1
      rw [Int.toNat_natCast] at hx hy
      obtain ⟨p, hp⟩ : ∃ p, rdOf ByteArray.empty x (n : Int) = p := ⟨_, rfl⟩
      obtain ⟨q, hq⟩ : ∃ q, rdOf ByteArray.empty y (n : Int) = q := ⟨_, rfl⟩
      rw [hp, hq] at hb
      rw [hp] at hx
      rw [hq] at hy
      have HX := Aside0.mk hb
      have HP := Aside0.mk hp
      have HQ := Aside0.mk hq
      clear hb hp hq
      have b1 : decide ((n : Int) < (x.length : Int)) = true := decide_eq_true (by omega)
      have p1 : (0 ≤ (n : Int)) = True := eq_true (by omega)
      have q1 : ((n : Int) < (x.length : Int)) = True := eq_true (by omega)
      have q2 : ((n : Int) < (y.length : Int)) = True := eq_true (by have := HL.out; omega)
      have hw : wrap64 ((n : Int) + 1) = ((n + 1 : Nat) : Int) := by
        rw [wrap_id (by omega) (by omega)]
        rfl
      have HT := Aside0.mk (fun (W : World) => label_Same.calls p q b W HX.out)
      cases b with
      | true =>
        clear hbr
        go_wp2_with (go_at_call 112; (with_reducible refine (HT.out _).mono ?_); rintro e w7 ⟨rfl, hb7⟩)
        go_roundg (gk - 1)
        case measure => omega
        case rel =>
          refine ⟨n + 1, rfl, ⟨by omega⟩, ⟨fun m hm => ?_⟩, ⟨hB.trans (hb7.mono hB.size)⟩⟩
          by_cases hmn : m < n
          · exact HC.out m hmn
          · obtain rfl : m = n := by omega
            rw [HP.out, HQ.out]
            exact HX.out
      | false =>
        have hbr' := hbr rfl
        subst hbr'
        clear hbr
        go_wp2_with (go_at_call 112; (with_reducible refine (HT.out _).mono ?_); rintro e w7 ⟨rfl, hb7⟩)
        go_ret
        exact ⟨rfl, hB.trans (hb7.mono hB.size)⟩
    · have en : n = x.length := by omega
      subst en
      have hrt : r = true := allSame_true HL.out.symm HR.out HC.out
      subst hrt
      have b1 : decide ((x.length : Int) < (x.length : Int)) = false := decide_eq_false (by omega)
      go_wp2
      go_ret
      exact ⟨rfl, hB⟩

def name_Same.f (k : Nat) (a0 a1 : ByteArray) : Option Bool :=
  (name_Check.f k a0).bind fun t => if t = 0 then ((name_Check.f k a1).bind fun u => if u = 0 then ((name_Labels.f k a0).bind fun x => (name_Labels.f k a1).bind fun y => if x.length = y.length then allSame (x.zip y) else some false) else some false) else some false
set_option maxRecDepth 100000 in
set_option maxHeartbeats 2000000 in
theorem nsame_bad1 (k : Nat) (a0 a1 : ByteArray) (c : Int) (hc : c ≠ 0) (hk : name_Check.f k a0 = some c) (w : World) :
    Calls Tryz.prog 78 #[.string a0, .string a1] w fun e W' => e = .returned (.bool false) ∧ Below w.heap.size w W' := by
  have HC := Aside0.mk hk
  have hc1 : (c == 0) = false := beq_eq_false_iff_ne.2 hc
  have hc2 : (c != 0) = true := bne_iff_ne.2 hc
  clear hk hc
  go_enter Tryz.func78, Tryz.ntmps78
  go_wp2_with (go_at_call 65; (with_reducible refine (name_Check.calls k a0 c _ HC.out).mono ?_); rintro e w' ⟨rfl, ⟨nd, rfl⟩⟩)
  go_ret
  exact ⟨rfl, pw_below_drewN (Below.refl _ _) _⟩
set_option maxRecDepth 100000 in
set_option maxHeartbeats 2000000 in
theorem nsame_bad2 (k : Nat) (a0 a1 : ByteArray) (c : Int) (hc : c ≠ 0) (hk0 : name_Check.f k a0 = some 0) (hk : name_Check.f k a1 = some c) (w : World) :
    Calls Tryz.prog 78 #[.string a0, .string a1] w fun e W' => e = .returned (.bool false) ∧ Below w.heap.size w W' := by
  have HC0 := Aside0.mk hk0
  have HC := Aside0.mk hk
  have hc1 : (c == 0) = false := beq_eq_false_iff_ne.2 hc
  have hc2 : (c != 0) = true := bne_iff_ne.2 hc
  clear hk hc hk0
  go_enter Tryz.func78, Tryz.ntmps78
  go_wp2_with (first
    | (go_at_call 65; (with_reducible refine (name_Check.calls k a0 0 _ HC0.out).mono ?_); rintro e w' ⟨rfl, ⟨nd, rfl⟩⟩)
    | (go_at_call 65; (with_reducible refine (name_Check.calls k a1 c _ HC.out).mono ?_); rintro e w' ⟨rfl, ⟨nd2, rfl⟩⟩))
  go_ret
  exact ⟨rfl, pw_below_drewN (Below.refl _ _) _⟩
set_option maxRecDepth 100000 in
set_option maxHeartbeats 2000000 in
theorem nsame_good (k : Nat) (a0 a1 : ByteArray) (x y : List ByteArray) (r : Bool) (hk0 : name_Check.f k a0 = some 0) (hk1 : name_Check.f k a1 = some 0) (hx : name_Labels.f k a0 = some x) (hy : name_Labels.f k a1 = some y)
    (hE : ∀ (A0 A1 : Option Addr) (c0 c1 : Nat) (w : World), Kd.C Kd.string w A0 x.length x → Kd.C Kd.string w A1 y.length y → Calls Tryz.prog 111 #[.slice A0 x.length c0, .slice A1 y.length c1, .func (.func 112) #[] #[]] w fun e w' => e = .returned (.bool r) ∧ Below w.heap.size w w') (w : World) :
    Calls Tryz.prog 78 #[.string a0, .string a1] w fun e W' => e = .returned (.bool r) ∧ Below w.heap.size w W' := by
  have HC0 := Aside0.mk hk0
  have HC1 := Aside0.mk hk1
  have HX := Aside0.mk hx
  have HY := Aside0.mk hy
  have HE := Aside0.mk hE
  clear hk1 hk0 hx hy hE
  go_enter Tryz.func78, Tryz.ntmps78
  go_wp2_with (first
    | (go_at_call 65; (with_reducible refine (name_Check.calls k a0 0 _ HC0.out).mono ?_); rintro e w' ⟨rfl, ⟨nd, rfl⟩⟩)
    | (go_at_call 65; (with_reducible refine (name_Check.calls k a1 0 _ HC1.out).mono ?_); rintro e w' ⟨rfl, ⟨nd2, rfl⟩⟩)
    | (go_at_call 37; (with_reducible refine (name_Labels.calls k a0 x _ HX.out).mono ?_); rintro e w3 ⟨v3, rfl, hr3, hb3⟩; have HR3 := Aside0.mk hr3; have HB3 := Aside0.mk hb3; clear hr3 hb3; obtain ⟨A3, c3, e3⟩ := Kd.R_slice HR3.out; subst e3)
    | (go_at_call 37; (with_reducible refine (name_Labels.calls k a1 y _ HY.out).mono ?_); rintro e w4 ⟨v4, rfl, hr4, hb4⟩; have HR4 := Aside0.mk hr4; have HB4 := Aside0.mk hb4; clear hr4 hb4; obtain ⟨A4, c4, e4⟩ := Kd.R_slice HR4.out; subst e4)
    | (go_at_call 111; (with_reducible refine (HE.out _ _ _ _ _ (Kd.C_below (Kd.R_reads' HR3.out).2.2 HB4.out) (Kd.R_reads' HR4.out).2.2).mono ?_); rintro e w5 ⟨rfl, hb5⟩; have HB5 := Aside0.mk hb5; clear hb5))
  go_ret
  refine ⟨rfl, ?_⟩
  have h3 := HB3.out.size
  have h4 := HB4.out.size
  exact ((pw_below_drewN (Below.refl _ _) _).trans (HB3.out.mono (by simp))).trans ((HB4.out.mono (by simpa using h3)).trans (HB5.out.mono (by simp at h3; omega)))
theorem name_Same.calls (k : Nat) (a0 a1 : ByteArray) (r : Bool) (w : World) (h : name_Same.f k a0 a1 = some r) :
    Calls Tryz.prog 78 #[.string a0, .string a1] w fun e w' => e = .returned (.bool r) ∧ Below w.heap.size w w' := by
  unfold name_Same.f at h
  cases hk : name_Check.f k a0 with
  | none => rw [hk] at h; cases h
  | some t =>
    rw [hk, Option.bind_some] at h
    by_cases ht : t = 0
    · subst ht
      rw [if_pos rfl] at h
      cases hk1 : name_Check.f k a1 with
      | none => rw [hk1] at h; cases h
      | some u =>
        rw [hk1, Option.bind_some] at h
        by_cases hu : u = 0
        · subst hu
          rw [if_pos rfl] at h
          cases hx : name_Labels.f k a0 with
          | none => rw [hx] at h; cases h
          | some x =>
            rw [hx, Option.bind_some] at h
            cases hy : name_Labels.f k a1 with
            | none => rw [hy] at h; cases h
            | some y =>
              rw [hy, Option.bind_some] at h
              by_cases hl : x.length = y.length
              · rw [if_pos hl] at h
                exact nsame_good k a0 a1 x y r hk hk1 hx hy (fun A0 A1 c0 c1 W h0 h1 => eqf_same A0 A1 c0 c1 x y r (name_Labels_le hx) hl h W h0 h1) w
              · rw [if_neg hl] at h
                obtain rfl := Option.some.inj h
                exact nsame_good k a0 a1 x y false hk hk1 hx hy (fun A0 A1 c0 c1 W _ _ => eqf_len A0 A1 c0 c1 x y hl W) w
        · rw [if_neg hu] at h
          obtain rfl := Option.some.inj h
          exact nsame_bad2 k a0 a1 u hu hk hk1 w
    · rw [if_neg ht] at h
      obtain rfl := Option.some.inj h
      exact nsame_bad1 k a0 a1 t ht hk w
theorem name_Same.mono : ∀ a0 a1 k, LeO (name_Same.f k a0 a1) (name_Same.f (k + 1) a0 a1) := by
  intro a0 a1 k
  unfold name_Same.f
  exact LeO.bind (name_Check.mono a0 k) (fun _ => LeO.ite (LeO.bind (name_Check.mono a1 k) (fun _ => LeO.ite (LeO.bind (name_Labels.mono a0 k) (fun _ => LeO.bind (name_Labels.mono a1 k) (fun _ => LeO.refl _))) (LeO.refl _))) (LeO.refl _))
end

def addr_Back.f (k : Nat) (a0 : ByteArray) : Option (Bool × Int × Int × Bool) := AddrLib.backOfF (name_Labels.f k) (AddrLib.backF (slices_Reverse_string_string.f k) strings_Join.f (addr_elder.f k) addr_number.f (addr_of.f k)) (addr_Reverse.f k) (name_Same.f k) a0
theorem addr_Back.calls (k : Nat) (a0 : ByteArray) (r1 : Bool) (r2 r3 : Int) (r4 : Bool) (w : World) (hG_ : Aside0 (AddrLib.G w)) (h : addr_Back.f k a0 = some (r1, r2, r3, r4)) :
    Calls Tryz.prog 43 #[.string a0] w fun e w' => e = .returned (.tuple #[.agg #[.bool r1, .int .u64 r2, .int .u64 r3], .bool r4]) ∧ Below w.heap.size w w' :=
  AddrLib.backOf_calls (name_Labels.f k) _ (addr_Reverse.f k) (name_Same.f k) a0 r1 r2 r3 r4 w hG_.out (fun l w h => name_Labels.calls k a0 l w h)
    (fun l a b c d u w0 w h hB hR => AddrLib.back_all _ _ _ _ _ (fun P u l r w0 w hB hR h => slices_Reverse_string_string.calls k P u l r w0 w hB hR h) (fun A c l s t W hr hc h => strings_Join.calls A c l s t W hr hc h) (fun s a b c d W h => addr_elder.calls k s a b c d W h) (fun s m B q b W h => addr_number.calls s m B q b W h) (fun A n l a b c W hr hc h => addr_of.calls k A n l a b c W hr hc h) l a b c d h u w0 w hB hR)
    (fun a b c r x w hg h => addr_Reverse.calls k a b c r x w ⟨hg⟩ h) (fun r t w h => name_Same.calls k r a0 t w h) h
theorem addr_Back.mono : ∀ a0 k, LeO (addr_Back.f k a0) (addr_Back.f (k + 1) a0) := fun a0 k => AddrLib.backOfF_mono (fun s => name_Labels.mono s k) (fun l => AddrLib.backF_mono _ _ (fun l => slices_Reverse_string_string.mono l k) (fun s => addr_elder.mono s k) (fun l => addr_of.mono l k) l) (fun a b c => addr_Reverse.mono a b c k) (fun a b => name_Same.mono a b k) a0

end Go.Proofs.YtilobbjnmnnmnaaGreatDoor.OBk
