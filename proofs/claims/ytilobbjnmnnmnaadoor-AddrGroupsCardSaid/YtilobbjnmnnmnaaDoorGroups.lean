/- The walk of the law AddrGroups: eight groups' texts are put together, with colons between; their octets. -/
import Derived.Test.YtilobbjnmnnmnaaDoorOGrx3
import Derived.Deep.QuietTactic
import Derived.BigQuiet
set_option linter.unusedSimpArgs false
set_option linter.unusedVariables false
namespace Go.Proofs.YtilobbjnmnnmnaaDoor.AddrLib
open Go.RowKit Go.Lib Go.Proofs.YtilobbjnmnnmnaaDoor.OGr Go.Proofs.YtilobbjnmnnmnaaDoorW.PrintWords Go.Proofs.YtilobbjnmnnmnaaDoorW.PrintLast Go.Proofs.YtilobbjnmnnmnaaDoorW.PrintMore

section
open Go.Shelf
attribute [local go_sem] Oper.semAt_some
theorem and15w (x : Int) (h0 : 0 ≤ x) (h1 : x < 65536) : bits .and .u16 x 15 = x % 16 := bits_mask .u16 16 (by decide) (fun n h0 h1 => by rw [show IntKind.u16.wrap n = n % 65536 by first | rfl | (simp [IntKind.wrap]; done) | (unfold IntKind.wrap; simp [IntKind.bits])]; omega) 4 (by decide) x h0 h1
theorem wrap16 (d : Int) (h0 : 0 ≤ d) (h1 : d < 16) : IntKind.u16.wrap (d + 1) = d + 1 := by rw [show IntKind.u16.wrap (d + 1) = (d + 1) % 65536 by first | rfl | (simp [IntKind.wrap]; done) | (unfold IntKind.wrap; simp [IntKind.bits])]; omega
def g4 (x : Int) : ByteArray := ((hexS (x / 4096) ++ hexS (x / 256 % 16)) ++ hexS (x / 16 % 16)) ++ hexS (x % 16)
/-- Noughts ahead taken off, all but the last digit. -/
def strp : Nat → ByteArray → ByteArray
  | 0, g => g
  | n + 1, g => if 1 < g.size ∧ bt g 0 = 48 then strp n (g.extract 1 g.size) else g
theorem two8 (W : World) (a b : Int) : ReadsInt (W.alloc (.cells #[.int .u8 a, .int .u8 b] 5)).drew .u8 (some ⟨W.heap.size, 0, none⟩) 2 [a, b] := by
  refine ⟨rfl, by decide, fun _ => ⟨_, rfl, fun j hj => ?_⟩⟩
  match j, hj with
  | 0, _ => exact cells_new W [.int .u8 a, .int .u8 b] _ 0 _ rfl
  | 1, _ => exact cells_new W [.int .u8 a, .int .u8 b] _ 1 _ rfl
theorem strp_size : ∀ (n : Nat) (g : ByteArray), 1 ≤ g.size → 1 ≤ (strp n g).size ∧ (strp n g).size ≤ g.size
  | 0, g, h => ⟨h, Nat.le_refl _⟩
  | n + 1, g, h => by
    unfold strp
    split
    · rename_i c
      have hz : (g.extract 1 g.size).size = g.size - 1 := by rw [ByteArray.size_extract]; omega
      have := strp_size n (g.extract 1 g.size) (by omega)
      omega
    · exact ⟨h, Nat.le_refl _⟩
def gOf (wide : Bool) (x : Int) : ByteArray := if wide then g4 x else strp 4 (g4 x)
def sAcc (wide : Bool) (xs : List Int) : Nat → ByteArray
  | 0 => ⟨#[]⟩
  | n + 1 => (if 0 < n then sAcc wide xs n ++ (⟨#[58]⟩ : ByteArray) else sAcc wide xs n) ++ gOf wide (xs.getD n 0)
def wAcc (xs : List Int) : Nat → ByteArray
  | 0 => ⟨#[]⟩
  | n + 1 => wAcc xs n ++ strOfNums [xs.getD n 0 / 256, xs.getD n 0 % 256]
set_option maxRecDepth 100000 in
set_option maxHeartbeats 4000000 in
theorem groups_walk (k : Nat) (a0 a1 a2 a3 a4 a5 a6 a7 : Int) (xs : List Int) (hL : xs = [a0, a1, a2, a3, a4, a5, a6, a7]) (hr : ∀ x ∈ xs, 0 ≤ x ∧ x < 65536) (wide : Bool) (hi lo : Int) (S V t : ByteArray) (hS : sAcc wide xs 8 = S) (hV : wAcc xs 8 = V) (w : World) (hG : G w)
    (h0 : nameplatelaw04_lives.f k = some true) (h1 : addr_Read.f k S = some (true, hi, lo, 0)) (h2 : addr_Octets.f k true hi lo = some (V, 0)) (h3 : addr_Text.f k true hi lo = some (t, 0)) (h4 : addr_Read.f k t = some (true, hi, lo, 0)) (h5 : t.size ≤ S.size) :
    Calls Tryd.prog 5 #[.agg #[.int .u16 a0, .int .u16 a1, .int .u16 a2, .int .u16 a3, .int .u16 a4, .int .u16 a5, .int .u16 a6, .int .u16 a7], .bool wide] w fun e w' => e = .returned (.bool true) ∧ Below w.heap.size w w' := by
  have HG := Aside0.mk hG
  have H0 := Aside0.mk (fun W hg => nameplatelaw04_lives.calls k true W ⟨hg⟩ h0)
  have H1 := Aside0.mk (fun W hg => addr_Read.calls k _ _ _ _ _ W ⟨hg⟩ h1)
  have H2 := Aside0.mk (fun W => addr_Octets.calls k _ _ _ _ _ W h2)
  have H3 := Aside0.mk (fun W hg => addr_Text.calls k _ _ _ _ _ W ⟨hg⟩ h3)
  have H4 := Aside0.mk (fun W hg => addr_Read.calls k _ _ _ _ _ W ⟨hg⟩ h4)
  have H5 := Aside0.mk h5
  have HS := Aside0.mk hS
  have HV := Aside0.mk hV
  have HL := Aside0.mk hL
  have HR := Aside0.mk hr
  clear hG h0 h1 h2 h3 h4 h5 hS hV hL hr
  go_enter Tryd.func5, Tryd.ntmps5
  go_wp2_with (go_at_call 13; (with_reducible refine (H0.out _ (HG.out.below (below_alloc (Below.refl _ _) _))).mono ?_); rintro e w3 ⟨rfl, hb3⟩; have HB3 := Aside0.mk hb3; clear hb3)
  have HA : Aside0 (ArrU w3 w.heap.size xs) := ⟨(HB3.out.block _ (by simp)).trans (by rw [HL.out]; exact heap_alloc_new w _)⟩
  have HB : Aside0 (Below w.heap.size w w3) := ⟨(below_alloc (Below.refl _ _) _).trans (HB3.out.mono (by simp))⟩
  have HLN : Aside0 (xs.length = 8) := ⟨by rw [HL.out]; rfl⟩
  clear HB3
  obtain ⟨R, hR⟩ : ∃ R, R = w.heap.size := ⟨_, rfl⟩
  rw [← hR] at HA ⊢
  have HRW := Aside0.mk hR
  clear hR
  go_loopw [6, 7, 8, 9] (fun s v i g wr => ∃ n : Nat, n ≤ 8 ∧ s = .string (sAcc wide xs n) ∧ v = .string (wAcc xs n) ∧ (sAcc wide xs n).size ≤ 5 * n ∧ (wAcc xs n).size ≤ 2 * n ∧ i = .int .i64 n ∧ Aside0 (ArrU wr R xs) ∧ Aside0 (Below w.heap.size w wr)) (fun _ _ i _ _ => 8 - (RowKit.intOf i).toNat)
  case atStart => exact ⟨0, by omega, rfl, rfl, Nat.le_refl 0, Nat.le_refl 0, rfl, HA, HB⟩
  case round =>
    clear HA HB
    obtain ⟨n, hn, rfl, rfl, hs5, hv2, rfl, HA, HB⟩ := hrel
    by_cases hlt : n < 8
    · have hc := HA.out.cell n (by rw [HLN.out]; exact hlt)
      have hx : 0 ≤ xs.getD n 0 ∧ xs.getD n 0 < 65536 := HR.out _ (by rw [List.getD_eq_getElem?_getD, List.getElem?_eq_getElem (by rw [HLN.out]; exact hlt)]; exact List.getElem_mem _)
      obtain ⟨x, hxe⟩ : ∃ x, xs.getD n 0 = x := ⟨_, rfl⟩
      have HX := Aside0.mk hxe
      rw [hxe] at hc hx
      clear hxe
      obtain ⟨s0, hs0⟩ : ∃ s, sAcc wide xs n = s := ⟨_, rfl⟩
      obtain ⟨v0, hv0⟩ : ∃ s, wAcc xs n = s := ⟨_, rfl⟩
      have HS0 := Aside0.mk hs0
      have HV0 := Aside0.mk hv0
      rw [hs0] at hs5 ⊢
      rw [hv0] at hv2 ⊢
      clear hs0 hv0
      go_wp2
      obtain ⟨d3, hd3⟩ : ∃ d, x / 4096 = d := ⟨_, rfl⟩
      obtain ⟨d2, hd2⟩ : ∃ d, bits .and .u16 (x / 256) 15 = d := ⟨_, rfl⟩
      obtain ⟨d1, hd1⟩ : ∃ d, bits .and .u16 (x / 16) 15 = d := ⟨_, rfl⟩
      obtain ⟨d0, hd0⟩ : ∃ d, bits .and .u16 x 15 = d := ⟨_, rfl⟩
      have q2 : x / 256 % 16 = d2 := by rw [← hd2, and15w _ (by omega) (by omega)]
      have q1 : x / 16 % 16 = d1 := by rw [← hd1, and15w _ (by omega) (by omega)]
      have q0 : x % 16 = d0 := by rw [← hd0, and15w _ (by omega) (by omega)]
      have GX : Aside0 (g4 x = ((hexS d3 ++ hexS d2) ++ hexS d1) ++ hexS d0) := ⟨by unfold g4; rw [hd3, q2, q1, q0]⟩
      have g3 : 0 ≤ d3 ∧ d3 < 16 := by omega
      have hw3 := wrap16 d3 g3.1 g3.2
      have p31 : (d3 + 1 ≤ 16) = True := eq_true (by omega)
      have p32 : (0 ≤ d3) = True := eq_true g3.1
      have p33 : (d3 ≤ d3 + 1) = True := eq_true (by omega)
      have HSZ3 : (hexS d3).size = 1 := by unfold hexS; rw [ByteArray.size_extract]; show min (d3 + 1).toNat 16 - d3.toNat = 1; omega
      have g2 : 0 ≤ d2 ∧ d2 < 16 := by omega
      have hw2 := wrap16 d2 g2.1 g2.2
      have p21 : (d2 + 1 ≤ 16) = True := eq_true (by omega)
      have p22 : (0 ≤ d2) = True := eq_true g2.1
      have p23 : (d2 ≤ d2 + 1) = True := eq_true (by omega)
      have HSZ2 : (hexS d2).size = 1 := by unfold hexS; rw [ByteArray.size_extract]; show min (d2 + 1).toNat 16 - d2.toNat = 1; omega
      have g1 : 0 ≤ d1 ∧ d1 < 16 := by omega
      have hw1 := wrap16 d1 g1.1 g1.2
      have p11 : (d1 + 1 ≤ 16) = True := eq_true (by omega)
      have p12 : (0 ≤ d1) = True := eq_true g1.1
      have p13 : (d1 ≤ d1 + 1) = True := eq_true (by omega)
      have HSZ1 : (hexS d1).size = 1 := by unfold hexS; rw [ByteArray.size_extract]; show min (d1 + 1).toNat 16 - d1.toNat = 1; omega
      have g0 : 0 ≤ d0 ∧ d0 < 16 := by omega
      have hw0 := wrap16 d0 g0.1 g0.2
      have p01 : (d0 + 1 ≤ 16) = True := eq_true (by omega)
      have p02 : (0 ≤ d0) = True := eq_true g0.1
      have p03 : (d0 ≤ d0 + 1) = True := eq_true (by omega)
      have HSZ0 : (hexS d0).size = 1 := by unfold hexS; rw [ByteArray.size_extract]; show min (d0 + 1).toNat 16 - d0.toNat = 1; omega
      clear q2 q1 q0
      have e8 : (((⟨#[48, 49, 50, 51, 52, 53, 54, 55, 56, 57, 97, 98, 99, 100, 101, 102]⟩ : ByteArray).extract d3.toNat (d3 + 1).toNat ++ (⟨#[48, 49, 50, 51, 52, 53, 54, 55, 56, 57, 97, 98, 99, 100, 101, 102]⟩ : ByteArray).extract d2.toNat (d2 + 1).toNat) ++ (⟨#[48, 49, 50, 51, 52, 53, 54, 55, 56, 57, 97, 98, 99, 100, 101, 102]⟩ : ByteArray).extract d1.toNat (d1 + 1).toNat) ++ (⟨#[48, 49, 50, 51, 52, 53, 54, 55, 56, 57, 97, 98, 99, 100, 101, 102]⟩ : ByteArray).extract d0.toNat (d0 + 1).toNat = g4 x := GX.out.symm
      have hg4 : (g4 x).size = 4 := by rw [GX.out, ByteArray.size_append, ByteArray.size_append, ByteArray.size_append, HSZ3, HSZ2, HSZ1, HSZ0]
      go_quiet (fail)
      have HA2 : Aside0 (ArrU (wr.drewN nq) R xs) := HA
      have HB2 : Aside0 (Below w.heap.size w (wr.drewN nq)) := ⟨pw_below_drewN HB.out _⟩
      generalize wr.drewN nq = wq at HA2 HB2 ⊢
      clear HA HB hc hd3 hd2 hd1 hd0 p31 p32 p33 p21 p22 p23 p11 p12 p13 p01 p02 p03 hw3 hw2 hw1 hw0 HSZ3 HSZ2 HSZ1 HSZ0 e8 GX
      go_wp2
      have hy4 : 1 ≤ (gOf wide x).size ∧ (gOf wide x).size ≤ 4 := by
        unfold gOf
        split
        · omega
        · have := strp_size 4 (g4 x) (by omega)
          omega
      obtain ⟨y, hy⟩ : ∃ y, y = gOf wide x := ⟨_, rfl⟩
      have HY := Aside0.mk hy
      rw [← hy] at hy4
      clear hy
      cases wide with
      | true =>
        have HY2 : Aside0 (y = g4 x) := ⟨HY.out⟩
        generalize g4 x = z at *
        obtain rfl := HY2.out
        clear hg4
        go_loopw [9] (fun g wr => g = .string y ∧ wr = wq) (fun g _ => 0)
        case atStart => exact ⟨rfl, rfl⟩
        case round =>
          obtain ⟨rfl, rfl⟩ := hrel
          have hcq := HA2.out.cell n (by rw [HLN.out]; exact hlt)
          rw [HX.out] at hcq
          have hwa : IntKind.u8.wrap (x / 256) = x / 256 := by rw [u8_wr]; omega
          have hwb : IntKind.u8.wrap x = x % 256 := u8_wr x
          obtain ⟨k2, hk2e⟩ : ∃ s, strOfNums [x / 256, x % 256] = s := ⟨_, rfl⟩
          have HK2 := Aside0.mk hk2e
          have HKS : Aside0 (k2.size = 2) := ⟨by rw [← hk2e, ← bytesOf_length, bytesOf_str (by intro c hc; simp only [List.mem_cons, List.not_mem_nil, or_false] at hc; rcases hc with rfl | rfl <;> omega)]; rfl⟩
          clear hk2e
          have e4 : (9223372036854775807 < v0.size + k2.size) = False := eq_false (by have := HKS.out; omega)
          by_cases hn0 : n = 0
          · subst hn0
            have e0 : decide ((0 : Int) < ((0 : Nat) : Int)) = false := rfl
            have e3 : (9223372036854775807 < s0.size + y.size) = False := eq_false (by omega)
            go_wp2
            refine start_ (n := 18) (S := fun w' => w'.cell? ⟨R, 0, none⟩ = some (.int .u16 x)) (ds := []) #[false, false, false, false, false, false, false, false, false, false, false, false, false, false, false, false, false, false] (by kernel_rfl) rfl rfl (hcq) (fun hHeld => ?_)
            refine pure_ (i := 0) (N := some 93) (v := ?_) (a' := ?_) #[true, false, false, false, false, false, false, false, false, false, false, false, false, false, false, false, false, false] rfl rfl (by kernel_rfl) (fun _ _ _ h => h) (Or.inl ⟨by rfl, ?_⟩) ?_ ?_
            rotate_left
            · intro w'
              go_simp
              with_reducible rfl
            rotate_left
            · simp only [Act.put, List.setIfInBounds_toArray, List.set_cons_zero, List.set_cons_succ, i64_w, i32_w]
              rfl
            refine pure_ (i := 1) (N := some 94) (v := ?_) (a' := ?_) #[true, true, false, false, false, false, false, false, false, false, false, false, false, false, false, false, false, false] rfl rfl (by kernel_rfl) (fun _ _ _ h => h) (Or.inl ⟨by rfl, ?_⟩) ?_ ?_
            rotate_left
            · intro w'
              go_simp
              with_reducible rfl
            rotate_left
            · simp only [Act.put, List.setIfInBounds_toArray, List.set_cons_zero, List.set_cons_succ, i64_w, i32_w]
              rfl
            refine pure_ (i := 2) (N := some 95) (v := ?_) (a' := ?_) #[true, true, true, false, false, false, false, false, false, false, false, false, false, false, false, false, false, false] rfl rfl (by kernel_rfl) (fun _ _ _ h => h) (Or.inl ⟨by rfl, ?_⟩) ?_ ?_
            rotate_left
            · intro w'
              go_simp
              with_reducible rfl
            rotate_left
            · simp only [Act.put, List.setIfInBounds_toArray, List.set_cons_zero, List.set_cons_succ, i64_w, i32_w]
              rfl
            refine pure_ (i := 3) (N := some 96) (v := ?_) (a' := ?_) #[true, true, true, true, false, false, false, false, false, false, false, false, false, false, false, false, false, false] rfl rfl (by kernel_rfl) (fun _ _ _ h => h) (Or.inl ⟨by rfl, ?_⟩) ?_ ?_
            rotate_left
            · intro w'
              go_simp
              with_reducible rfl
            rotate_left
            · simp only [Act.put, List.setIfInBounds_toArray, List.set_cons_zero, List.set_cons_succ, i64_w, i32_w]
              rfl
            refine pure_ (i := 4) (N := some 97) (v := ?_) (a' := ?_) #[true, true, true, true, true, false, false, false, false, false, false, false, false, false, false, false, false, false] rfl rfl (by kernel_rfl) (fun _ _ _ h => h) (Or.inl ⟨by rfl, ?_⟩) ?_ ?_
            rotate_left
            · intro w'
              go_simp
              with_reducible rfl
            rotate_left
            · simp only [Act.put, List.setIfInBounds_toArray, List.set_cons_zero, List.set_cons_succ, i64_w, i32_w]
              rfl
            refine pure_ (i := 5) (N := some 98) (v := ?_) (a' := ?_) #[true, true, true, true, true, true, false, false, false, false, false, false, false, false, false, false, false, false] rfl rfl (by kernel_rfl) (fun _ _ _ h => h) (Or.inl ⟨by rfl, ?_⟩) ?_ ?_
            rotate_left
            · intro w'
              go_simp
              with_reducible rfl
            rotate_left
            · simp only [Act.put, List.setIfInBounds_toArray, List.set_cons_zero, List.set_cons_succ, i64_w, i32_w]
              rfl
            refine pure_ (i := 9) (N := some 102) (v := ?_) (a' := ?_) #[true, true, true, true, true, true, false, false, false, true, false, false, false, false, false, false, false, false] rfl rfl (by kernel_rfl) (fun _ _ _ h => h) (Or.inl ⟨by rfl, ?_⟩) ?_ ?_
            rotate_left
            · intro w'
              go_simp
              with_reducible rfl
            rotate_left
            · simp only [Act.put, List.setIfInBounds_toArray, List.set_cons_zero, List.set_cons_succ, i64_w, i32_w]
              rfl
            refine pure_ (i := 10) (N := some 103) (v := ?_) (a' := ?_) #[true, true, true, true, true, true, false, false, false, true, true, false, false, false, false, false, false, false] rfl rfl (by kernel_rfl) (fun _ _ _ h => h) (Or.inl ⟨by rfl, ?_⟩) ?_ ?_
            rotate_left
            · intro w'
              go_simp
              with_reducible rfl
            rotate_left
            · simp only [Act.put, List.setIfInBounds_toArray, List.set_cons_zero, List.set_cons_succ, i64_w, i32_w]
              rfl
            refine pure_ (i := 16) (N := some 6) (v := ?_) (a' := ?_) #[true, true, true, true, true, true, false, false, false, true, true, false, false, false, false, false, true, false] rfl rfl (by kernel_rfl) (fun _ _ _ h => h) (Or.inl ⟨by rfl, ?_⟩) ?_ ?_
            rotate_left
            · intro w'
              go_simp
              with_reducible rfl
            rotate_left
            · simp only [Act.put, List.setIfInBounds_toArray, List.set_cons_zero, List.set_cons_succ, i64_w, i32_w]
              rfl
            refine take_ (i := 6) (N := some 99) (v := ?_) (a' := ?_) #[true, true, true, true, true, true, true, false, false, true, true, false, false, false, false, false, true, false] rfl rfl (by kernel_rfl) (fun _ _ _ h => h) (Or.inl ⟨by rfl, ?_⟩) hHeld ?_ ?_
            rotate_left
            · intro w' s0
              go_simp
              with_reducible rfl
            rotate_left
            · simp only [Act.put, List.setIfInBounds_toArray, List.set_cons_zero, List.set_cons_succ, i64_w, i32_w]
              rfl
            refine pure_ (i := 7) (N := some 100) (v := ?_) (a' := ?_) #[true, true, true, true, true, true, true, true, false, true, true, false, false, false, false, false, true, false] rfl rfl (by kernel_rfl) (fun _ _ _ h => h) (Or.inl ⟨by rfl, ?_⟩) ?_ ?_
            rotate_left
            · intro w'
              go_simp
              with_reducible rfl
            rotate_left
            · simp only [Act.put, List.setIfInBounds_toArray, List.set_cons_zero, List.set_cons_succ, i64_w, i32_w]
              rfl
            refine pure_ (i := 8) (N := some 101) (v := ?_) (a' := ?_) #[true, true, true, true, true, true, true, true, true, true, true, false, false, false, false, false, true, false] rfl rfl (by kernel_rfl) (fun _ _ _ h => h) (Or.inl ⟨by rfl, ?_⟩) ?_ ?_
            rotate_left
            · intro w'
              go_simp
              with_reducible rfl
            rotate_left
            · simp only [Act.put, List.setIfInBounds_toArray, List.set_cons_zero, List.set_cons_succ, i64_w, i32_w]
              rfl
            refine take_ (i := 11) (N := some 104) (v := ?_) (a' := ?_) #[true, true, true, true, true, true, true, true, true, true, true, true, false, false, false, false, true, false] rfl rfl (by kernel_rfl) (fun _ _ _ h => h) (Or.inl ⟨by rfl, ?_⟩) hHeld ?_ ?_
            rotate_left
            · intro w' s0
              go_simp
              with_reducible rfl
            rotate_left
            · simp only [Act.put, List.setIfInBounds_toArray, List.set_cons_zero, List.set_cons_succ, i64_w, i32_w]
              rfl
            refine pure_ (i := 12) (N := some 105) (v := ?_) (a' := ?_) #[true, true, true, true, true, true, true, true, true, true, true, true, true, false, false, false, true, false] rfl rfl (by kernel_rfl) (fun _ _ _ h => h) (Or.inl ⟨by rfl, ?_⟩) ?_ ?_
            rotate_left
            · intro w'
              go_simp
              with_reducible rfl
            rotate_left
            · simp only [Act.put, List.setIfInBounds_toArray, List.set_cons_zero, List.set_cons_succ, i64_w, i32_w]
              rfl
            refine one_ (i := 13) (N := some 106) #[true, true, true, true, true, true, true, true, true, true, true, true, true, true, false, false, true, false] rfl rfl (by kernel_rfl) (by decide) (fun K hK => ?_)
            refine value_ (w1 := ?_) (v := ?_) (by rfl) rfl ?_ ?_
            rotate_left 2
            · go_simp
              constructor
              · rfl
              · rfl
            have H2 : Aside0 (Below wr.heap.size wr ((wr.alloc (.cells #[.int .u8 (x / 256), .int .u8 (x % 256)] 5)).drew)) := ⟨((Below.refl _ _).alloc (Nat.le_refl _) _).drew⟩
            refine hK.out _ _ ((H2.out.cell (p := ⟨R, 0, none⟩) (blk_lt HA2.out)).trans hcq) (fun hHeld => ?_)
            clear hK K
            refine norm_ (a' := ?_) ?_ ?_
            rotate_left
            · show Act.put _ (some 106) _ = _
              simp only [Act.put, List.setIfInBounds_toArray, List.set_cons_zero, List.set_cons_succ, i64_w, i32_w]
              rfl
            refine one_ (i := 14) (N := some 107) #[true, true, true, true, true, true, true, true, true, true, true, true, true, true, true, false, true, false] rfl rfl (by kernel_rfl) (by decide) (fun K hK => ?_)
            have hcv := string_of_reads (P := Tryd.prog) (src := 39) (dst := 9) (e := 5) (c := 2) Tryd.underlying39 Tryd.underlying5 Tryd.underlying9 (two8 wr (x / 256) (x % 256))
            rw [HK2.out] at hcv
            refine value_ (w1 := ?_) (v := ?_) (by rfl) rfl ?_ ?_
            rotate_left 2
            · go_simp
              constructor
              · rfl
              · rfl
            refine hK.out _ _ ((H2.out.cell (p := ⟨R, 0, none⟩) (blk_lt HA2.out)).trans hcq) (fun hHeld => ?_)
            clear hK K
            refine norm_ (a' := ?_) ?_ ?_
            rotate_left
            · show Act.put _ (some 107) _ = _
              simp only [Act.put, List.setIfInBounds_toArray, List.set_cons_zero, List.set_cons_succ, i64_w, i32_w]
              rfl
            refine pure_ (i := 15) (N := some 108) (v := ?_) (a' := ?_) #[true, true, true, true, true, true, true, true, true, true, true, true, true, true, true, true, true, false] rfl rfl (by kernel_rfl) (fun _ _ _ h => h) (Or.inl ⟨by rfl, ?_⟩) ?_ ?_
            rotate_left
            · intro w'
              go_simp
              with_reducible rfl
            rotate_left
            · simp only [Act.put, List.setIfInBounds_toArray, List.set_cons_zero, List.set_cons_succ, i64_w, i32_w]
              rfl
            refine pure_ (i := 17) (N := some 7) (v := ?_) (a' := ?_) #[true, true, true, true, true, true, true, true, true, true, true, true, true, true, true, true, true, true] rfl rfl (by kernel_rfl) (fun _ _ _ h => h) (Or.inl ⟨by rfl, ?_⟩) ?_ ?_
            rotate_left
            · intro w'
              go_simp
              with_reducible rfl
            rotate_left
            · simp only [Act.put, List.setIfInBounds_toArray, List.set_cons_zero, List.set_cons_succ, i64_w, i32_w]
              rfl
            refine done_ (by kernel_rfl) ?_
  
            go_wp2
            go_roundw
            case rel => exact ⟨0 + 1, by omega, by rw [sAcc, HS0.out, HX.out, ← HY.out, if_neg (by decide)], by rw [wAcc, HV0.out, HX.out, HK2.out], by rw [sAcc, HS0.out, HX.out, ← HY.out, if_neg (by decide), ByteArray.size_append]; omega, by rw [wAcc, HV0.out, HX.out, HK2.out, ByteArray.size_append, HKS.out]; omega, by go_num, ⟨HA2.out.below H2.out⟩, ⟨HB2.out.trans (H2.out.mono HB2.out.size)⟩⟩
            case measure => first | (simp [RowKit.intOf]; done) | (simp [RowKit.intOf]; omega)
  
          · have e0 : (0 < n) = True := eq_true (by omega)
            have e1 : (9223372036854775807 < s0.size + 1) = False := eq_false (by omega)
            have e3 : (9223372036854775807 < s0.size + 1 + y.size) = False := eq_false (by omega)
            go_wp2
            refine start_ (n := 18) (S := fun w' => w'.cell? ⟨R, n, none⟩ = some (.int .u16 x)) (ds := []) #[false, false, false, false, false, false, false, false, false, false, false, false, false, false, false, false, false, false] (by kernel_rfl) rfl rfl (hcq) (fun hHeld => ?_)
            refine pure_ (i := 0) (N := some 93) (v := ?_) (a' := ?_) #[true, false, false, false, false, false, false, false, false, false, false, false, false, false, false, false, false, false] rfl rfl (by kernel_rfl) (fun _ _ _ h => h) (Or.inl ⟨by rfl, ?_⟩) ?_ ?_
            rotate_left
            · intro w'
              go_simp
              with_reducible rfl
            rotate_left
            · simp only [Act.put, List.setIfInBounds_toArray, List.set_cons_zero, List.set_cons_succ, i64_w, i32_w]
              rfl
            refine pure_ (i := 1) (N := some 94) (v := ?_) (a' := ?_) #[true, true, false, false, false, false, false, false, false, false, false, false, false, false, false, false, false, false] rfl rfl (by kernel_rfl) (fun _ _ _ h => h) (Or.inl ⟨by rfl, ?_⟩) ?_ ?_
            rotate_left
            · intro w'
              go_simp
              with_reducible rfl
            rotate_left
            · simp only [Act.put, List.setIfInBounds_toArray, List.set_cons_zero, List.set_cons_succ, i64_w, i32_w]
              rfl
            refine pure_ (i := 2) (N := some 95) (v := ?_) (a' := ?_) #[true, true, true, false, false, false, false, false, false, false, false, false, false, false, false, false, false, false] rfl rfl (by kernel_rfl) (fun _ _ _ h => h) (Or.inl ⟨by rfl, ?_⟩) ?_ ?_
            rotate_left
            · intro w'
              go_simp
              with_reducible rfl
            rotate_left
            · simp only [Act.put, List.setIfInBounds_toArray, List.set_cons_zero, List.set_cons_succ, i64_w, i32_w]
              rfl
            refine pure_ (i := 3) (N := some 96) (v := ?_) (a' := ?_) #[true, true, true, true, false, false, false, false, false, false, false, false, false, false, false, false, false, false] rfl rfl (by kernel_rfl) (fun _ _ _ h => h) (Or.inl ⟨by rfl, ?_⟩) ?_ ?_
            rotate_left
            · intro w'
              go_simp
              with_reducible rfl
            rotate_left
            · simp only [Act.put, List.setIfInBounds_toArray, List.set_cons_zero, List.set_cons_succ, i64_w, i32_w]
              rfl
            refine pure_ (i := 4) (N := some 97) (v := ?_) (a' := ?_) #[true, true, true, true, true, false, false, false, false, false, false, false, false, false, false, false, false, false] rfl rfl (by kernel_rfl) (fun _ _ _ h => h) (Or.inl ⟨by rfl, ?_⟩) ?_ ?_
            rotate_left
            · intro w'
              go_simp
              with_reducible rfl
            rotate_left
            · simp only [Act.put, List.setIfInBounds_toArray, List.set_cons_zero, List.set_cons_succ, i64_w, i32_w]
              rfl
            refine pure_ (i := 5) (N := some 98) (v := ?_) (a' := ?_) #[true, true, true, true, true, true, false, false, false, false, false, false, false, false, false, false, false, false] rfl rfl (by kernel_rfl) (fun _ _ _ h => h) (Or.inl ⟨by rfl, ?_⟩) ?_ ?_
            rotate_left
            · intro w'
              go_simp
              with_reducible rfl
            rotate_left
            · simp only [Act.put, List.setIfInBounds_toArray, List.set_cons_zero, List.set_cons_succ, i64_w, i32_w]
              rfl
            refine pure_ (i := 9) (N := some 102) (v := ?_) (a' := ?_) #[true, true, true, true, true, true, false, false, false, true, false, false, false, false, false, false, false, false] rfl rfl (by kernel_rfl) (fun _ _ _ h => h) (Or.inl ⟨by rfl, ?_⟩) ?_ ?_
            rotate_left
            · intro w'
              go_simp
              with_reducible rfl
            rotate_left
            · simp only [Act.put, List.setIfInBounds_toArray, List.set_cons_zero, List.set_cons_succ, i64_w, i32_w]
              rfl
            refine pure_ (i := 10) (N := some 103) (v := ?_) (a' := ?_) #[true, true, true, true, true, true, false, false, false, true, true, false, false, false, false, false, false, false] rfl rfl (by kernel_rfl) (fun _ _ _ h => h) (Or.inl ⟨by rfl, ?_⟩) ?_ ?_
            rotate_left
            · intro w'
              go_simp
              with_reducible rfl
            rotate_left
            · simp only [Act.put, List.setIfInBounds_toArray, List.set_cons_zero, List.set_cons_succ, i64_w, i32_w]
              rfl
            refine pure_ (i := 16) (N := some 6) (v := ?_) (a' := ?_) #[true, true, true, true, true, true, false, false, false, true, true, false, false, false, false, false, true, false] rfl rfl (by kernel_rfl) (fun _ _ _ h => h) (Or.inl ⟨by rfl, ?_⟩) ?_ ?_
            rotate_left
            · intro w'
              go_simp
              with_reducible rfl
            rotate_left
            · simp only [Act.put, List.setIfInBounds_toArray, List.set_cons_zero, List.set_cons_succ, i64_w, i32_w]
              rfl
            refine take_ (i := 6) (N := some 99) (v := ?_) (a' := ?_) #[true, true, true, true, true, true, true, false, false, true, true, false, false, false, false, false, true, false] rfl rfl (by kernel_rfl) (fun _ _ _ h => h) (Or.inl ⟨by rfl, ?_⟩) hHeld ?_ ?_
            rotate_left
            · intro w' s0
              go_simp
              with_reducible rfl
            rotate_left
            · simp only [Act.put, List.setIfInBounds_toArray, List.set_cons_zero, List.set_cons_succ, i64_w, i32_w]
              rfl
            refine pure_ (i := 7) (N := some 100) (v := ?_) (a' := ?_) #[true, true, true, true, true, true, true, true, false, true, true, false, false, false, false, false, true, false] rfl rfl (by kernel_rfl) (fun _ _ _ h => h) (Or.inl ⟨by rfl, ?_⟩) ?_ ?_
            rotate_left
            · intro w'
              go_simp
              with_reducible rfl
            rotate_left
            · simp only [Act.put, List.setIfInBounds_toArray, List.set_cons_zero, List.set_cons_succ, i64_w, i32_w]
              rfl
            refine pure_ (i := 8) (N := some 101) (v := ?_) (a' := ?_) #[true, true, true, true, true, true, true, true, true, true, true, false, false, false, false, false, true, false] rfl rfl (by kernel_rfl) (fun _ _ _ h => h) (Or.inl ⟨by rfl, ?_⟩) ?_ ?_
            rotate_left
            · intro w'
              go_simp
              with_reducible rfl
            rotate_left
            · simp only [Act.put, List.setIfInBounds_toArray, List.set_cons_zero, List.set_cons_succ, i64_w, i32_w]
              rfl
            refine take_ (i := 11) (N := some 104) (v := ?_) (a' := ?_) #[true, true, true, true, true, true, true, true, true, true, true, true, false, false, false, false, true, false] rfl rfl (by kernel_rfl) (fun _ _ _ h => h) (Or.inl ⟨by rfl, ?_⟩) hHeld ?_ ?_
            rotate_left
            · intro w' s0
              go_simp
              with_reducible rfl
            rotate_left
            · simp only [Act.put, List.setIfInBounds_toArray, List.set_cons_zero, List.set_cons_succ, i64_w, i32_w]
              rfl
            refine pure_ (i := 12) (N := some 105) (v := ?_) (a' := ?_) #[true, true, true, true, true, true, true, true, true, true, true, true, true, false, false, false, true, false] rfl rfl (by kernel_rfl) (fun _ _ _ h => h) (Or.inl ⟨by rfl, ?_⟩) ?_ ?_
            rotate_left
            · intro w'
              go_simp
              with_reducible rfl
            rotate_left
            · simp only [Act.put, List.setIfInBounds_toArray, List.set_cons_zero, List.set_cons_succ, i64_w, i32_w]
              rfl
            refine one_ (i := 13) (N := some 106) #[true, true, true, true, true, true, true, true, true, true, true, true, true, true, false, false, true, false] rfl rfl (by kernel_rfl) (by decide) (fun K hK => ?_)
            refine value_ (w1 := ?_) (v := ?_) (by rfl) rfl ?_ ?_
            rotate_left 2
            · go_simp
              constructor
              · rfl
              · rfl
            have H2 : Aside0 (Below wr.heap.size wr ((wr.alloc (.cells #[.int .u8 (x / 256), .int .u8 (x % 256)] 5)).drew)) := ⟨((Below.refl _ _).alloc (Nat.le_refl _) _).drew⟩
            refine hK.out _ _ ((H2.out.cell (p := ⟨R, n, none⟩) (blk_lt HA2.out)).trans hcq) (fun hHeld => ?_)
            clear hK K
            refine norm_ (a' := ?_) ?_ ?_
            rotate_left
            · show Act.put _ (some 106) _ = _
              simp only [Act.put, List.setIfInBounds_toArray, List.set_cons_zero, List.set_cons_succ, i64_w, i32_w]
              rfl
            refine one_ (i := 14) (N := some 107) #[true, true, true, true, true, true, true, true, true, true, true, true, true, true, true, false, true, false] rfl rfl (by kernel_rfl) (by decide) (fun K hK => ?_)
            have hcv := string_of_reads (P := Tryd.prog) (src := 39) (dst := 9) (e := 5) (c := 2) Tryd.underlying39 Tryd.underlying5 Tryd.underlying9 (two8 wr (x / 256) (x % 256))
            rw [HK2.out] at hcv
            refine value_ (w1 := ?_) (v := ?_) (by rfl) rfl ?_ ?_
            rotate_left 2
            · go_simp
              constructor
              · rfl
              · rfl
            refine hK.out _ _ ((H2.out.cell (p := ⟨R, n, none⟩) (blk_lt HA2.out)).trans hcq) (fun hHeld => ?_)
            clear hK K
            refine norm_ (a' := ?_) ?_ ?_
            rotate_left
            · show Act.put _ (some 107) _ = _
              simp only [Act.put, List.setIfInBounds_toArray, List.set_cons_zero, List.set_cons_succ, i64_w, i32_w]
              rfl
            refine pure_ (i := 15) (N := some 108) (v := ?_) (a' := ?_) #[true, true, true, true, true, true, true, true, true, true, true, true, true, true, true, true, true, false] rfl rfl (by kernel_rfl) (fun _ _ _ h => h) (Or.inl ⟨by rfl, ?_⟩) ?_ ?_
            rotate_left
            · intro w'
              go_simp
              with_reducible rfl
            rotate_left
            · simp only [Act.put, List.setIfInBounds_toArray, List.set_cons_zero, List.set_cons_succ, i64_w, i32_w]
              rfl
            refine pure_ (i := 17) (N := some 7) (v := ?_) (a' := ?_) #[true, true, true, true, true, true, true, true, true, true, true, true, true, true, true, true, true, true] rfl rfl (by kernel_rfl) (fun _ _ _ h => h) (Or.inl ⟨by rfl, ?_⟩) ?_ ?_
            rotate_left
            · intro w'
              go_simp
              with_reducible rfl
            rotate_left
            · simp only [Act.put, List.setIfInBounds_toArray, List.set_cons_zero, List.set_cons_succ, i64_w, i32_w]
              rfl
            refine done_ (by kernel_rfl) ?_
  
            go_wp2
            go_roundw
            case rel => exact ⟨n + 1, by omega, by rw [sAcc, HS0.out, HX.out, ← HY.out, if_pos (by omega)], by rw [wAcc, HV0.out, HX.out, HK2.out], by rw [sAcc, HS0.out, HX.out, ← HY.out, if_pos (by omega), ByteArray.size_append]; rw [ByteArray.size_append]; have h1_ : (⟨#[58]⟩ : ByteArray).size = 1 := rfl; omega, by rw [wAcc, HV0.out, HX.out, HK2.out, ByteArray.size_append, HKS.out]; omega, by go_num, ⟨HA2.out.below H2.out⟩, ⟨HB2.out.trans (H2.out.mono HB2.out.size)⟩⟩
            case measure => first | (simp [RowKit.intOf]; done) | (simp [RowKit.intOf]; omega)
  
      | false =>
        have HG4 := Aside0.mk hg4
        clear hg4
        have HY2 : Aside0 (y = strp 4 (g4 x)) := ⟨HY.out⟩
        generalize g4 x = z at *
        go_loopw [9] (fun g wr => wr = wq ∧ ∃ (m : Nat) (gg : ByteArray), g = .string gg ∧ m ≤ 4 ∧ 1 ≤ gg.size ∧ gg.size ≤ 4 ∧ gg.size ≤ m + 1 ∧ Aside0 (y = strp m gg)) (fun g _ => match g with | .string s => s.size | _ => 0)
        case atStart => exact ⟨rfl, 4, z, rfl, by omega, by have := HG4.out; omega, by have := HG4.out; omega, by have := HG4.out; omega, HY2⟩
        case round =>
          obtain ⟨rfl, m, gg, rfl, hm, z1, z2, z3, HZ⟩ := hrel
          have hb0 : ∀ h : 0 < gg.size, ((gg[0]'h).toNat : Int) = bt gg 0 := bt_at gg 0
          by_cases c1 : 1 < gg.size
          · have b1 : decide (1 < (gg.size : Int)) = true := decide_eq_true (by omega)
            have b3 : (0 < gg.size) = True := eq_true (by omega)
            by_cases c2 : bt gg 0 = 48
            · have b2 : (bt gg 0 == 48) = true := beq_iff_eq.2 c2
              go_wp2
              go_roundw
              case rel =>
                have hz : (gg.extract 1 gg.size).size = gg.size - 1 := by rw [ByteArray.size_extract]; omega
                refine ⟨trivial, m - 1, _, rfl, by omega, by omega, by omega, by omega, ⟨?_⟩⟩
                rw [HZ.out]
                obtain ⟨m', rfl⟩ : ∃ m', m = m' + 1 := ⟨m - 1, by omega⟩
                rw [strp, if_pos ⟨c1, c2⟩]
                rfl
              case measure =>
                show (gg.extract 1 gg.size).size < gg.size
                rw [ByteArray.size_extract]; omega
            · have b2 : (bt gg 0 == 48) = false := beq_eq_false_iff_ne.2 c2
              obtain rfl : y = gg := by
                rw [HZ.out]
                cases m with
                | zero => rfl
                | succ m => rw [strp, if_neg (fun e => c2 e.2)]
              have hcq := HA2.out.cell n (by rw [HLN.out]; exact hlt)
              rw [HX.out] at hcq
              have hwa : IntKind.u8.wrap (x / 256) = x / 256 := by rw [u8_wr]; omega
              have hwb : IntKind.u8.wrap x = x % 256 := u8_wr x
              obtain ⟨k2, hk2e⟩ : ∃ s, strOfNums [x / 256, x % 256] = s := ⟨_, rfl⟩
              have HK2 := Aside0.mk hk2e
              have HKS : Aside0 (k2.size = 2) := ⟨by rw [← hk2e, ← bytesOf_length, bytesOf_str (by intro c hc; simp only [List.mem_cons, List.not_mem_nil, or_false] at hc; rcases hc with rfl | rfl <;> omega)]; rfl⟩
              clear hk2e
              have e4 : (9223372036854775807 < v0.size + k2.size) = False := eq_false (by have := HKS.out; omega)
              by_cases hn0 : n = 0
              · subst hn0
                have e0 : decide ((0 : Int) < ((0 : Nat) : Int)) = false := rfl
                have e3 : (9223372036854775807 < s0.size + y.size) = False := eq_false (by omega)
                go_wp2
                refine start_ (n := 18) (S := fun w' => w'.cell? ⟨R, 0, none⟩ = some (.int .u16 x)) (ds := []) #[false, false, false, false, false, false, false, false, false, false, false, false, false, false, false, false, false, false] (by kernel_rfl) rfl rfl (hcq) (fun hHeld => ?_)
                refine pure_ (i := 0) (N := some 93) (v := ?_) (a' := ?_) #[true, false, false, false, false, false, false, false, false, false, false, false, false, false, false, false, false, false] rfl rfl (by kernel_rfl) (fun _ _ _ h => h) (Or.inl ⟨by rfl, ?_⟩) ?_ ?_
                rotate_left
                · intro w'
                  go_simp
                  with_reducible rfl
                rotate_left
                · simp only [Act.put, List.setIfInBounds_toArray, List.set_cons_zero, List.set_cons_succ, i64_w, i32_w]
                  rfl
                refine pure_ (i := 1) (N := some 94) (v := ?_) (a' := ?_) #[true, true, false, false, false, false, false, false, false, false, false, false, false, false, false, false, false, false] rfl rfl (by kernel_rfl) (fun _ _ _ h => h) (Or.inl ⟨by rfl, ?_⟩) ?_ ?_
                rotate_left
                · intro w'
                  go_simp
                  with_reducible rfl
                rotate_left
                · simp only [Act.put, List.setIfInBounds_toArray, List.set_cons_zero, List.set_cons_succ, i64_w, i32_w]
                  rfl
                refine pure_ (i := 2) (N := some 95) (v := ?_) (a' := ?_) #[true, true, true, false, false, false, false, false, false, false, false, false, false, false, false, false, false, false] rfl rfl (by kernel_rfl) (fun _ _ _ h => h) (Or.inl ⟨by rfl, ?_⟩) ?_ ?_
                rotate_left
                · intro w'
                  go_simp
                  with_reducible rfl
                rotate_left
                · simp only [Act.put, List.setIfInBounds_toArray, List.set_cons_zero, List.set_cons_succ, i64_w, i32_w]
                  rfl
                refine pure_ (i := 3) (N := some 96) (v := ?_) (a' := ?_) #[true, true, true, true, false, false, false, false, false, false, false, false, false, false, false, false, false, false] rfl rfl (by kernel_rfl) (fun _ _ _ h => h) (Or.inl ⟨by rfl, ?_⟩) ?_ ?_
                rotate_left
                · intro w'
                  go_simp
                  with_reducible rfl
                rotate_left
                · simp only [Act.put, List.setIfInBounds_toArray, List.set_cons_zero, List.set_cons_succ, i64_w, i32_w]
                  rfl
                refine pure_ (i := 4) (N := some 97) (v := ?_) (a' := ?_) #[true, true, true, true, true, false, false, false, false, false, false, false, false, false, false, false, false, false] rfl rfl (by kernel_rfl) (fun _ _ _ h => h) (Or.inl ⟨by rfl, ?_⟩) ?_ ?_
                rotate_left
                · intro w'
                  go_simp
                  with_reducible rfl
                rotate_left
                · simp only [Act.put, List.setIfInBounds_toArray, List.set_cons_zero, List.set_cons_succ, i64_w, i32_w]
                  rfl
                refine pure_ (i := 5) (N := some 98) (v := ?_) (a' := ?_) #[true, true, true, true, true, true, false, false, false, false, false, false, false, false, false, false, false, false] rfl rfl (by kernel_rfl) (fun _ _ _ h => h) (Or.inl ⟨by rfl, ?_⟩) ?_ ?_
                rotate_left
                · intro w'
                  go_simp
                  with_reducible rfl
                rotate_left
                · simp only [Act.put, List.setIfInBounds_toArray, List.set_cons_zero, List.set_cons_succ, i64_w, i32_w]
                  rfl
                refine pure_ (i := 9) (N := some 102) (v := ?_) (a' := ?_) #[true, true, true, true, true, true, false, false, false, true, false, false, false, false, false, false, false, false] rfl rfl (by kernel_rfl) (fun _ _ _ h => h) (Or.inl ⟨by rfl, ?_⟩) ?_ ?_
                rotate_left
                · intro w'
                  go_simp
                  with_reducible rfl
                rotate_left
                · simp only [Act.put, List.setIfInBounds_toArray, List.set_cons_zero, List.set_cons_succ, i64_w, i32_w]
                  rfl
                refine pure_ (i := 10) (N := some 103) (v := ?_) (a' := ?_) #[true, true, true, true, true, true, false, false, false, true, true, false, false, false, false, false, false, false] rfl rfl (by kernel_rfl) (fun _ _ _ h => h) (Or.inl ⟨by rfl, ?_⟩) ?_ ?_
                rotate_left
                · intro w'
                  go_simp
                  with_reducible rfl
                rotate_left
                · simp only [Act.put, List.setIfInBounds_toArray, List.set_cons_zero, List.set_cons_succ, i64_w, i32_w]
                  rfl
                refine pure_ (i := 16) (N := some 6) (v := ?_) (a' := ?_) #[true, true, true, true, true, true, false, false, false, true, true, false, false, false, false, false, true, false] rfl rfl (by kernel_rfl) (fun _ _ _ h => h) (Or.inl ⟨by rfl, ?_⟩) ?_ ?_
                rotate_left
                · intro w'
                  go_simp
                  with_reducible rfl
                rotate_left
                · simp only [Act.put, List.setIfInBounds_toArray, List.set_cons_zero, List.set_cons_succ, i64_w, i32_w]
                  rfl
                refine take_ (i := 6) (N := some 99) (v := ?_) (a' := ?_) #[true, true, true, true, true, true, true, false, false, true, true, false, false, false, false, false, true, false] rfl rfl (by kernel_rfl) (fun _ _ _ h => h) (Or.inl ⟨by rfl, ?_⟩) hHeld ?_ ?_
                rotate_left
                · intro w' s0
                  go_simp
                  with_reducible rfl
                rotate_left
                · simp only [Act.put, List.setIfInBounds_toArray, List.set_cons_zero, List.set_cons_succ, i64_w, i32_w]
                  rfl
                refine pure_ (i := 7) (N := some 100) (v := ?_) (a' := ?_) #[true, true, true, true, true, true, true, true, false, true, true, false, false, false, false, false, true, false] rfl rfl (by kernel_rfl) (fun _ _ _ h => h) (Or.inl ⟨by rfl, ?_⟩) ?_ ?_
                rotate_left
                · intro w'
                  go_simp
                  with_reducible rfl
                rotate_left
                · simp only [Act.put, List.setIfInBounds_toArray, List.set_cons_zero, List.set_cons_succ, i64_w, i32_w]
                  rfl
                refine pure_ (i := 8) (N := some 101) (v := ?_) (a' := ?_) #[true, true, true, true, true, true, true, true, true, true, true, false, false, false, false, false, true, false] rfl rfl (by kernel_rfl) (fun _ _ _ h => h) (Or.inl ⟨by rfl, ?_⟩) ?_ ?_
                rotate_left
                · intro w'
                  go_simp
                  with_reducible rfl
                rotate_left
                · simp only [Act.put, List.setIfInBounds_toArray, List.set_cons_zero, List.set_cons_succ, i64_w, i32_w]
                  rfl
                refine take_ (i := 11) (N := some 104) (v := ?_) (a' := ?_) #[true, true, true, true, true, true, true, true, true, true, true, true, false, false, false, false, true, false] rfl rfl (by kernel_rfl) (fun _ _ _ h => h) (Or.inl ⟨by rfl, ?_⟩) hHeld ?_ ?_
                rotate_left
                · intro w' s0
                  go_simp
                  with_reducible rfl
                rotate_left
                · simp only [Act.put, List.setIfInBounds_toArray, List.set_cons_zero, List.set_cons_succ, i64_w, i32_w]
                  rfl
                refine pure_ (i := 12) (N := some 105) (v := ?_) (a' := ?_) #[true, true, true, true, true, true, true, true, true, true, true, true, true, false, false, false, true, false] rfl rfl (by kernel_rfl) (fun _ _ _ h => h) (Or.inl ⟨by rfl, ?_⟩) ?_ ?_
                rotate_left
                · intro w'
                  go_simp
                  with_reducible rfl
                rotate_left
                · simp only [Act.put, List.setIfInBounds_toArray, List.set_cons_zero, List.set_cons_succ, i64_w, i32_w]
                  rfl
                refine one_ (i := 13) (N := some 106) #[true, true, true, true, true, true, true, true, true, true, true, true, true, true, false, false, true, false] rfl rfl (by kernel_rfl) (by decide) (fun K hK => ?_)
                refine value_ (w1 := ?_) (v := ?_) (by rfl) rfl ?_ ?_
                rotate_left 2
                · go_simp
                  constructor
                  · rfl
                  · rfl
                have H2 : Aside0 (Below wr.heap.size wr ((wr.alloc (.cells #[.int .u8 (x / 256), .int .u8 (x % 256)] 5)).drew)) := ⟨((Below.refl _ _).alloc (Nat.le_refl _) _).drew⟩
                refine hK.out _ _ ((H2.out.cell (p := ⟨R, 0, none⟩) (blk_lt HA2.out)).trans hcq) (fun hHeld => ?_)
                clear hK K
                refine norm_ (a' := ?_) ?_ ?_
                rotate_left
                · show Act.put _ (some 106) _ = _
                  simp only [Act.put, List.setIfInBounds_toArray, List.set_cons_zero, List.set_cons_succ, i64_w, i32_w]
                  rfl
                refine one_ (i := 14) (N := some 107) #[true, true, true, true, true, true, true, true, true, true, true, true, true, true, true, false, true, false] rfl rfl (by kernel_rfl) (by decide) (fun K hK => ?_)
                have hcv := string_of_reads (P := Tryd.prog) (src := 39) (dst := 9) (e := 5) (c := 2) Tryd.underlying39 Tryd.underlying5 Tryd.underlying9 (two8 wr (x / 256) (x % 256))
                rw [HK2.out] at hcv
                refine value_ (w1 := ?_) (v := ?_) (by rfl) rfl ?_ ?_
                rotate_left 2
                · go_simp
                  constructor
                  · rfl
                  · rfl
                refine hK.out _ _ ((H2.out.cell (p := ⟨R, 0, none⟩) (blk_lt HA2.out)).trans hcq) (fun hHeld => ?_)
                clear hK K
                refine norm_ (a' := ?_) ?_ ?_
                rotate_left
                · show Act.put _ (some 107) _ = _
                  simp only [Act.put, List.setIfInBounds_toArray, List.set_cons_zero, List.set_cons_succ, i64_w, i32_w]
                  rfl
                refine pure_ (i := 15) (N := some 108) (v := ?_) (a' := ?_) #[true, true, true, true, true, true, true, true, true, true, true, true, true, true, true, true, true, false] rfl rfl (by kernel_rfl) (fun _ _ _ h => h) (Or.inl ⟨by rfl, ?_⟩) ?_ ?_
                rotate_left
                · intro w'
                  go_simp
                  with_reducible rfl
                rotate_left
                · simp only [Act.put, List.setIfInBounds_toArray, List.set_cons_zero, List.set_cons_succ, i64_w, i32_w]
                  rfl
                refine pure_ (i := 17) (N := some 7) (v := ?_) (a' := ?_) #[true, true, true, true, true, true, true, true, true, true, true, true, true, true, true, true, true, true] rfl rfl (by kernel_rfl) (fun _ _ _ h => h) (Or.inl ⟨by rfl, ?_⟩) ?_ ?_
                rotate_left
                · intro w'
                  go_simp
                  with_reducible rfl
                rotate_left
                · simp only [Act.put, List.setIfInBounds_toArray, List.set_cons_zero, List.set_cons_succ, i64_w, i32_w]
                  rfl
                refine done_ (by kernel_rfl) ?_
  
                go_wp2
                go_roundw
                case rel => exact ⟨0 + 1, by omega, by rw [sAcc, HS0.out, HX.out, ← HY.out, if_neg (by decide)], by rw [wAcc, HV0.out, HX.out, HK2.out], by rw [sAcc, HS0.out, HX.out, ← HY.out, if_neg (by decide), ByteArray.size_append]; omega, by rw [wAcc, HV0.out, HX.out, HK2.out, ByteArray.size_append, HKS.out]; omega, by go_num, ⟨HA2.out.below H2.out⟩, ⟨HB2.out.trans (H2.out.mono HB2.out.size)⟩⟩
                case measure => first | (simp [RowKit.intOf]; done) | (simp [RowKit.intOf]; omega)
  
              · have e0 : (0 < n) = True := eq_true (by omega)
                have e1 : (9223372036854775807 < s0.size + 1) = False := eq_false (by omega)
                have e3 : (9223372036854775807 < s0.size + 1 + y.size) = False := eq_false (by omega)
                go_wp2
                refine start_ (n := 18) (S := fun w' => w'.cell? ⟨R, n, none⟩ = some (.int .u16 x)) (ds := []) #[false, false, false, false, false, false, false, false, false, false, false, false, false, false, false, false, false, false] (by kernel_rfl) rfl rfl (hcq) (fun hHeld => ?_)
                refine pure_ (i := 0) (N := some 93) (v := ?_) (a' := ?_) #[true, false, false, false, false, false, false, false, false, false, false, false, false, false, false, false, false, false] rfl rfl (by kernel_rfl) (fun _ _ _ h => h) (Or.inl ⟨by rfl, ?_⟩) ?_ ?_
                rotate_left
                · intro w'
                  go_simp
                  with_reducible rfl
                rotate_left
                · simp only [Act.put, List.setIfInBounds_toArray, List.set_cons_zero, List.set_cons_succ, i64_w, i32_w]
                  rfl
                refine pure_ (i := 1) (N := some 94) (v := ?_) (a' := ?_) #[true, true, false, false, false, false, false, false, false, false, false, false, false, false, false, false, false, false] rfl rfl (by kernel_rfl) (fun _ _ _ h => h) (Or.inl ⟨by rfl, ?_⟩) ?_ ?_
                rotate_left
                · intro w'
                  go_simp
                  with_reducible rfl
                rotate_left
                · simp only [Act.put, List.setIfInBounds_toArray, List.set_cons_zero, List.set_cons_succ, i64_w, i32_w]
                  rfl
                refine pure_ (i := 2) (N := some 95) (v := ?_) (a' := ?_) #[true, true, true, false, false, false, false, false, false, false, false, false, false, false, false, false, false, false] rfl rfl (by kernel_rfl) (fun _ _ _ h => h) (Or.inl ⟨by rfl, ?_⟩) ?_ ?_
                rotate_left
                · intro w'
                  go_simp
                  with_reducible rfl
                rotate_left
                · simp only [Act.put, List.setIfInBounds_toArray, List.set_cons_zero, List.set_cons_succ, i64_w, i32_w]
                  rfl
                refine pure_ (i := 3) (N := some 96) (v := ?_) (a' := ?_) #[true, true, true, true, false, false, false, false, false, false, false, false, false, false, false, false, false, false] rfl rfl (by kernel_rfl) (fun _ _ _ h => h) (Or.inl ⟨by rfl, ?_⟩) ?_ ?_
                rotate_left
                · intro w'
                  go_simp
                  with_reducible rfl
                rotate_left
                · simp only [Act.put, List.setIfInBounds_toArray, List.set_cons_zero, List.set_cons_succ, i64_w, i32_w]
                  rfl
                refine pure_ (i := 4) (N := some 97) (v := ?_) (a' := ?_) #[true, true, true, true, true, false, false, false, false, false, false, false, false, false, false, false, false, false] rfl rfl (by kernel_rfl) (fun _ _ _ h => h) (Or.inl ⟨by rfl, ?_⟩) ?_ ?_
                rotate_left
                · intro w'
                  go_simp
                  with_reducible rfl
                rotate_left
                · simp only [Act.put, List.setIfInBounds_toArray, List.set_cons_zero, List.set_cons_succ, i64_w, i32_w]
                  rfl
                refine pure_ (i := 5) (N := some 98) (v := ?_) (a' := ?_) #[true, true, true, true, true, true, false, false, false, false, false, false, false, false, false, false, false, false] rfl rfl (by kernel_rfl) (fun _ _ _ h => h) (Or.inl ⟨by rfl, ?_⟩) ?_ ?_
                rotate_left
                · intro w'
                  go_simp
                  with_reducible rfl
                rotate_left
                · simp only [Act.put, List.setIfInBounds_toArray, List.set_cons_zero, List.set_cons_succ, i64_w, i32_w]
                  rfl
                refine pure_ (i := 9) (N := some 102) (v := ?_) (a' := ?_) #[true, true, true, true, true, true, false, false, false, true, false, false, false, false, false, false, false, false] rfl rfl (by kernel_rfl) (fun _ _ _ h => h) (Or.inl ⟨by rfl, ?_⟩) ?_ ?_
                rotate_left
                · intro w'
                  go_simp
                  with_reducible rfl
                rotate_left
                · simp only [Act.put, List.setIfInBounds_toArray, List.set_cons_zero, List.set_cons_succ, i64_w, i32_w]
                  rfl
                refine pure_ (i := 10) (N := some 103) (v := ?_) (a' := ?_) #[true, true, true, true, true, true, false, false, false, true, true, false, false, false, false, false, false, false] rfl rfl (by kernel_rfl) (fun _ _ _ h => h) (Or.inl ⟨by rfl, ?_⟩) ?_ ?_
                rotate_left
                · intro w'
                  go_simp
                  with_reducible rfl
                rotate_left
                · simp only [Act.put, List.setIfInBounds_toArray, List.set_cons_zero, List.set_cons_succ, i64_w, i32_w]
                  rfl
                refine pure_ (i := 16) (N := some 6) (v := ?_) (a' := ?_) #[true, true, true, true, true, true, false, false, false, true, true, false, false, false, false, false, true, false] rfl rfl (by kernel_rfl) (fun _ _ _ h => h) (Or.inl ⟨by rfl, ?_⟩) ?_ ?_
                rotate_left
                · intro w'
                  go_simp
                  with_reducible rfl
                rotate_left
                · simp only [Act.put, List.setIfInBounds_toArray, List.set_cons_zero, List.set_cons_succ, i64_w, i32_w]
                  rfl
                refine take_ (i := 6) (N := some 99) (v := ?_) (a' := ?_) #[true, true, true, true, true, true, true, false, false, true, true, false, false, false, false, false, true, false] rfl rfl (by kernel_rfl) (fun _ _ _ h => h) (Or.inl ⟨by rfl, ?_⟩) hHeld ?_ ?_
                rotate_left
                · intro w' s0
                  go_simp
                  with_reducible rfl
                rotate_left
                · simp only [Act.put, List.setIfInBounds_toArray, List.set_cons_zero, List.set_cons_succ, i64_w, i32_w]
                  rfl
                refine pure_ (i := 7) (N := some 100) (v := ?_) (a' := ?_) #[true, true, true, true, true, true, true, true, false, true, true, false, false, false, false, false, true, false] rfl rfl (by kernel_rfl) (fun _ _ _ h => h) (Or.inl ⟨by rfl, ?_⟩) ?_ ?_
                rotate_left
                · intro w'
                  go_simp
                  with_reducible rfl
                rotate_left
                · simp only [Act.put, List.setIfInBounds_toArray, List.set_cons_zero, List.set_cons_succ, i64_w, i32_w]
                  rfl
                refine pure_ (i := 8) (N := some 101) (v := ?_) (a' := ?_) #[true, true, true, true, true, true, true, true, true, true, true, false, false, false, false, false, true, false] rfl rfl (by kernel_rfl) (fun _ _ _ h => h) (Or.inl ⟨by rfl, ?_⟩) ?_ ?_
                rotate_left
                · intro w'
                  go_simp
                  with_reducible rfl
                rotate_left
                · simp only [Act.put, List.setIfInBounds_toArray, List.set_cons_zero, List.set_cons_succ, i64_w, i32_w]
                  rfl
                refine take_ (i := 11) (N := some 104) (v := ?_) (a' := ?_) #[true, true, true, true, true, true, true, true, true, true, true, true, false, false, false, false, true, false] rfl rfl (by kernel_rfl) (fun _ _ _ h => h) (Or.inl ⟨by rfl, ?_⟩) hHeld ?_ ?_
                rotate_left
                · intro w' s0
                  go_simp
                  with_reducible rfl
                rotate_left
                · simp only [Act.put, List.setIfInBounds_toArray, List.set_cons_zero, List.set_cons_succ, i64_w, i32_w]
                  rfl
                refine pure_ (i := 12) (N := some 105) (v := ?_) (a' := ?_) #[true, true, true, true, true, true, true, true, true, true, true, true, true, false, false, false, true, false] rfl rfl (by kernel_rfl) (fun _ _ _ h => h) (Or.inl ⟨by rfl, ?_⟩) ?_ ?_
                rotate_left
                · intro w'
                  go_simp
                  with_reducible rfl
                rotate_left
                · simp only [Act.put, List.setIfInBounds_toArray, List.set_cons_zero, List.set_cons_succ, i64_w, i32_w]
                  rfl
                refine one_ (i := 13) (N := some 106) #[true, true, true, true, true, true, true, true, true, true, true, true, true, true, false, false, true, false] rfl rfl (by kernel_rfl) (by decide) (fun K hK => ?_)
                refine value_ (w1 := ?_) (v := ?_) (by rfl) rfl ?_ ?_
                rotate_left 2
                · go_simp
                  constructor
                  · rfl
                  · rfl
                have H2 : Aside0 (Below wr.heap.size wr ((wr.alloc (.cells #[.int .u8 (x / 256), .int .u8 (x % 256)] 5)).drew)) := ⟨((Below.refl _ _).alloc (Nat.le_refl _) _).drew⟩
                refine hK.out _ _ ((H2.out.cell (p := ⟨R, n, none⟩) (blk_lt HA2.out)).trans hcq) (fun hHeld => ?_)
                clear hK K
                refine norm_ (a' := ?_) ?_ ?_
                rotate_left
                · show Act.put _ (some 106) _ = _
                  simp only [Act.put, List.setIfInBounds_toArray, List.set_cons_zero, List.set_cons_succ, i64_w, i32_w]
                  rfl
                refine one_ (i := 14) (N := some 107) #[true, true, true, true, true, true, true, true, true, true, true, true, true, true, true, false, true, false] rfl rfl (by kernel_rfl) (by decide) (fun K hK => ?_)
                have hcv := string_of_reads (P := Tryd.prog) (src := 39) (dst := 9) (e := 5) (c := 2) Tryd.underlying39 Tryd.underlying5 Tryd.underlying9 (two8 wr (x / 256) (x % 256))
                rw [HK2.out] at hcv
                refine value_ (w1 := ?_) (v := ?_) (by rfl) rfl ?_ ?_
                rotate_left 2
                · go_simp
                  constructor
                  · rfl
                  · rfl
                refine hK.out _ _ ((H2.out.cell (p := ⟨R, n, none⟩) (blk_lt HA2.out)).trans hcq) (fun hHeld => ?_)
                clear hK K
                refine norm_ (a' := ?_) ?_ ?_
                rotate_left
                · show Act.put _ (some 107) _ = _
                  simp only [Act.put, List.setIfInBounds_toArray, List.set_cons_zero, List.set_cons_succ, i64_w, i32_w]
                  rfl
                refine pure_ (i := 15) (N := some 108) (v := ?_) (a' := ?_) #[true, true, true, true, true, true, true, true, true, true, true, true, true, true, true, true, true, false] rfl rfl (by kernel_rfl) (fun _ _ _ h => h) (Or.inl ⟨by rfl, ?_⟩) ?_ ?_
                rotate_left
                · intro w'
                  go_simp
                  with_reducible rfl
                rotate_left
                · simp only [Act.put, List.setIfInBounds_toArray, List.set_cons_zero, List.set_cons_succ, i64_w, i32_w]
                  rfl
                refine pure_ (i := 17) (N := some 7) (v := ?_) (a' := ?_) #[true, true, true, true, true, true, true, true, true, true, true, true, true, true, true, true, true, true] rfl rfl (by kernel_rfl) (fun _ _ _ h => h) (Or.inl ⟨by rfl, ?_⟩) ?_ ?_
                rotate_left
                · intro w'
                  go_simp
                  with_reducible rfl
                rotate_left
                · simp only [Act.put, List.setIfInBounds_toArray, List.set_cons_zero, List.set_cons_succ, i64_w, i32_w]
                  rfl
                refine done_ (by kernel_rfl) ?_
  
                go_wp2
                go_roundw
                case rel => exact ⟨n + 1, by omega, by rw [sAcc, HS0.out, HX.out, ← HY.out, if_pos (by omega)], by rw [wAcc, HV0.out, HX.out, HK2.out], by rw [sAcc, HS0.out, HX.out, ← HY.out, if_pos (by omega), ByteArray.size_append]; rw [ByteArray.size_append]; have h1_ : (⟨#[58]⟩ : ByteArray).size = 1 := rfl; omega, by rw [wAcc, HV0.out, HX.out, HK2.out, ByteArray.size_append, HKS.out]; omega, by go_num, ⟨HA2.out.below H2.out⟩, ⟨HB2.out.trans (H2.out.mono HB2.out.size)⟩⟩
                case measure => first | (simp [RowKit.intOf]; done) | (simp [RowKit.intOf]; omega)
  
          · have b1 : decide (1 < (gg.size : Int)) = false := decide_eq_false (by omega)
            obtain rfl : y = gg := by
              rw [HZ.out]
              cases m with
              | zero => rfl
              | succ m => rw [strp, if_neg (fun e => c1 e.1)]
            have hcq := HA2.out.cell n (by rw [HLN.out]; exact hlt)
            rw [HX.out] at hcq
            have hwa : IntKind.u8.wrap (x / 256) = x / 256 := by rw [u8_wr]; omega
            have hwb : IntKind.u8.wrap x = x % 256 := u8_wr x
            obtain ⟨k2, hk2e⟩ : ∃ s, strOfNums [x / 256, x % 256] = s := ⟨_, rfl⟩
            have HK2 := Aside0.mk hk2e
            have HKS : Aside0 (k2.size = 2) := ⟨by rw [← hk2e, ← bytesOf_length, bytesOf_str (by intro c hc; simp only [List.mem_cons, List.not_mem_nil, or_false] at hc; rcases hc with rfl | rfl <;> omega)]; rfl⟩
            clear hk2e
            have e4 : (9223372036854775807 < v0.size + k2.size) = False := eq_false (by have := HKS.out; omega)
            by_cases hn0 : n = 0
            · subst hn0
              have e0 : decide ((0 : Int) < ((0 : Nat) : Int)) = false := rfl
              have e3 : (9223372036854775807 < s0.size + y.size) = False := eq_false (by omega)
              go_wp2
              refine start_ (n := 18) (S := fun w' => w'.cell? ⟨R, 0, none⟩ = some (.int .u16 x)) (ds := []) #[false, false, false, false, false, false, false, false, false, false, false, false, false, false, false, false, false, false] (by kernel_rfl) rfl rfl (hcq) (fun hHeld => ?_)
              refine pure_ (i := 0) (N := some 93) (v := ?_) (a' := ?_) #[true, false, false, false, false, false, false, false, false, false, false, false, false, false, false, false, false, false] rfl rfl (by kernel_rfl) (fun _ _ _ h => h) (Or.inl ⟨by rfl, ?_⟩) ?_ ?_
              rotate_left
              · intro w'
                go_simp
                with_reducible rfl
              rotate_left
              · simp only [Act.put, List.setIfInBounds_toArray, List.set_cons_zero, List.set_cons_succ, i64_w, i32_w]
                rfl
              refine pure_ (i := 1) (N := some 94) (v := ?_) (a' := ?_) #[true, true, false, false, false, false, false, false, false, false, false, false, false, false, false, false, false, false] rfl rfl (by kernel_rfl) (fun _ _ _ h => h) (Or.inl ⟨by rfl, ?_⟩) ?_ ?_
              rotate_left
              · intro w'
                go_simp
                with_reducible rfl
              rotate_left
              · simp only [Act.put, List.setIfInBounds_toArray, List.set_cons_zero, List.set_cons_succ, i64_w, i32_w]
                rfl
              refine pure_ (i := 2) (N := some 95) (v := ?_) (a' := ?_) #[true, true, true, false, false, false, false, false, false, false, false, false, false, false, false, false, false, false] rfl rfl (by kernel_rfl) (fun _ _ _ h => h) (Or.inl ⟨by rfl, ?_⟩) ?_ ?_
              rotate_left
              · intro w'
                go_simp
                with_reducible rfl
              rotate_left
              · simp only [Act.put, List.setIfInBounds_toArray, List.set_cons_zero, List.set_cons_succ, i64_w, i32_w]
                rfl
              refine pure_ (i := 3) (N := some 96) (v := ?_) (a' := ?_) #[true, true, true, true, false, false, false, false, false, false, false, false, false, false, false, false, false, false] rfl rfl (by kernel_rfl) (fun _ _ _ h => h) (Or.inl ⟨by rfl, ?_⟩) ?_ ?_
              rotate_left
              · intro w'
                go_simp
                with_reducible rfl
              rotate_left
              · simp only [Act.put, List.setIfInBounds_toArray, List.set_cons_zero, List.set_cons_succ, i64_w, i32_w]
                rfl
              refine pure_ (i := 4) (N := some 97) (v := ?_) (a' := ?_) #[true, true, true, true, true, false, false, false, false, false, false, false, false, false, false, false, false, false] rfl rfl (by kernel_rfl) (fun _ _ _ h => h) (Or.inl ⟨by rfl, ?_⟩) ?_ ?_
              rotate_left
              · intro w'
                go_simp
                with_reducible rfl
              rotate_left
              · simp only [Act.put, List.setIfInBounds_toArray, List.set_cons_zero, List.set_cons_succ, i64_w, i32_w]
                rfl
              refine pure_ (i := 5) (N := some 98) (v := ?_) (a' := ?_) #[true, true, true, true, true, true, false, false, false, false, false, false, false, false, false, false, false, false] rfl rfl (by kernel_rfl) (fun _ _ _ h => h) (Or.inl ⟨by rfl, ?_⟩) ?_ ?_
              rotate_left
              · intro w'
                go_simp
                with_reducible rfl
              rotate_left
              · simp only [Act.put, List.setIfInBounds_toArray, List.set_cons_zero, List.set_cons_succ, i64_w, i32_w]
                rfl
              refine pure_ (i := 9) (N := some 102) (v := ?_) (a' := ?_) #[true, true, true, true, true, true, false, false, false, true, false, false, false, false, false, false, false, false] rfl rfl (by kernel_rfl) (fun _ _ _ h => h) (Or.inl ⟨by rfl, ?_⟩) ?_ ?_
              rotate_left
              · intro w'
                go_simp
                with_reducible rfl
              rotate_left
              · simp only [Act.put, List.setIfInBounds_toArray, List.set_cons_zero, List.set_cons_succ, i64_w, i32_w]
                rfl
              refine pure_ (i := 10) (N := some 103) (v := ?_) (a' := ?_) #[true, true, true, true, true, true, false, false, false, true, true, false, false, false, false, false, false, false] rfl rfl (by kernel_rfl) (fun _ _ _ h => h) (Or.inl ⟨by rfl, ?_⟩) ?_ ?_
              rotate_left
              · intro w'
                go_simp
                with_reducible rfl
              rotate_left
              · simp only [Act.put, List.setIfInBounds_toArray, List.set_cons_zero, List.set_cons_succ, i64_w, i32_w]
                rfl
              refine pure_ (i := 16) (N := some 6) (v := ?_) (a' := ?_) #[true, true, true, true, true, true, false, false, false, true, true, false, false, false, false, false, true, false] rfl rfl (by kernel_rfl) (fun _ _ _ h => h) (Or.inl ⟨by rfl, ?_⟩) ?_ ?_
              rotate_left
              · intro w'
                go_simp
                with_reducible rfl
              rotate_left
              · simp only [Act.put, List.setIfInBounds_toArray, List.set_cons_zero, List.set_cons_succ, i64_w, i32_w]
                rfl
              refine take_ (i := 6) (N := some 99) (v := ?_) (a' := ?_) #[true, true, true, true, true, true, true, false, false, true, true, false, false, false, false, false, true, false] rfl rfl (by kernel_rfl) (fun _ _ _ h => h) (Or.inl ⟨by rfl, ?_⟩) hHeld ?_ ?_
              rotate_left
              · intro w' s0
                go_simp
                with_reducible rfl
              rotate_left
              · simp only [Act.put, List.setIfInBounds_toArray, List.set_cons_zero, List.set_cons_succ, i64_w, i32_w]
                rfl
              refine pure_ (i := 7) (N := some 100) (v := ?_) (a' := ?_) #[true, true, true, true, true, true, true, true, false, true, true, false, false, false, false, false, true, false] rfl rfl (by kernel_rfl) (fun _ _ _ h => h) (Or.inl ⟨by rfl, ?_⟩) ?_ ?_
              rotate_left
              · intro w'
                go_simp
                with_reducible rfl
              rotate_left
              · simp only [Act.put, List.setIfInBounds_toArray, List.set_cons_zero, List.set_cons_succ, i64_w, i32_w]
                rfl
              refine pure_ (i := 8) (N := some 101) (v := ?_) (a' := ?_) #[true, true, true, true, true, true, true, true, true, true, true, false, false, false, false, false, true, false] rfl rfl (by kernel_rfl) (fun _ _ _ h => h) (Or.inl ⟨by rfl, ?_⟩) ?_ ?_
              rotate_left
              · intro w'
                go_simp
                with_reducible rfl
              rotate_left
              · simp only [Act.put, List.setIfInBounds_toArray, List.set_cons_zero, List.set_cons_succ, i64_w, i32_w]
                rfl
              refine take_ (i := 11) (N := some 104) (v := ?_) (a' := ?_) #[true, true, true, true, true, true, true, true, true, true, true, true, false, false, false, false, true, false] rfl rfl (by kernel_rfl) (fun _ _ _ h => h) (Or.inl ⟨by rfl, ?_⟩) hHeld ?_ ?_
              rotate_left
              · intro w' s0
                go_simp
                with_reducible rfl
              rotate_left
              · simp only [Act.put, List.setIfInBounds_toArray, List.set_cons_zero, List.set_cons_succ, i64_w, i32_w]
                rfl
              refine pure_ (i := 12) (N := some 105) (v := ?_) (a' := ?_) #[true, true, true, true, true, true, true, true, true, true, true, true, true, false, false, false, true, false] rfl rfl (by kernel_rfl) (fun _ _ _ h => h) (Or.inl ⟨by rfl, ?_⟩) ?_ ?_
              rotate_left
              · intro w'
                go_simp
                with_reducible rfl
              rotate_left
              · simp only [Act.put, List.setIfInBounds_toArray, List.set_cons_zero, List.set_cons_succ, i64_w, i32_w]
                rfl
              refine one_ (i := 13) (N := some 106) #[true, true, true, true, true, true, true, true, true, true, true, true, true, true, false, false, true, false] rfl rfl (by kernel_rfl) (by decide) (fun K hK => ?_)
              refine value_ (w1 := ?_) (v := ?_) (by rfl) rfl ?_ ?_
              rotate_left 2
              · go_simp
                constructor
                · rfl
                · rfl
              have H2 : Aside0 (Below wr.heap.size wr ((wr.alloc (.cells #[.int .u8 (x / 256), .int .u8 (x % 256)] 5)).drew)) := ⟨((Below.refl _ _).alloc (Nat.le_refl _) _).drew⟩
              refine hK.out _ _ ((H2.out.cell (p := ⟨R, 0, none⟩) (blk_lt HA2.out)).trans hcq) (fun hHeld => ?_)
              clear hK K
              refine norm_ (a' := ?_) ?_ ?_
              rotate_left
              · show Act.put _ (some 106) _ = _
                simp only [Act.put, List.setIfInBounds_toArray, List.set_cons_zero, List.set_cons_succ, i64_w, i32_w]
                rfl
              refine one_ (i := 14) (N := some 107) #[true, true, true, true, true, true, true, true, true, true, true, true, true, true, true, false, true, false] rfl rfl (by kernel_rfl) (by decide) (fun K hK => ?_)
              have hcv := string_of_reads (P := Tryd.prog) (src := 39) (dst := 9) (e := 5) (c := 2) Tryd.underlying39 Tryd.underlying5 Tryd.underlying9 (two8 wr (x / 256) (x % 256))
              rw [HK2.out] at hcv
              refine value_ (w1 := ?_) (v := ?_) (by rfl) rfl ?_ ?_
              rotate_left 2
              · go_simp
                constructor
                · rfl
                · rfl
              refine hK.out _ _ ((H2.out.cell (p := ⟨R, 0, none⟩) (blk_lt HA2.out)).trans hcq) (fun hHeld => ?_)
              clear hK K
              refine norm_ (a' := ?_) ?_ ?_
              rotate_left
              · show Act.put _ (some 107) _ = _
                simp only [Act.put, List.setIfInBounds_toArray, List.set_cons_zero, List.set_cons_succ, i64_w, i32_w]
                rfl
              refine pure_ (i := 15) (N := some 108) (v := ?_) (a' := ?_) #[true, true, true, true, true, true, true, true, true, true, true, true, true, true, true, true, true, false] rfl rfl (by kernel_rfl) (fun _ _ _ h => h) (Or.inl ⟨by rfl, ?_⟩) ?_ ?_
              rotate_left
              · intro w'
                go_simp
                with_reducible rfl
              rotate_left
              · simp only [Act.put, List.setIfInBounds_toArray, List.set_cons_zero, List.set_cons_succ, i64_w, i32_w]
                rfl
              refine pure_ (i := 17) (N := some 7) (v := ?_) (a' := ?_) #[true, true, true, true, true, true, true, true, true, true, true, true, true, true, true, true, true, true] rfl rfl (by kernel_rfl) (fun _ _ _ h => h) (Or.inl ⟨by rfl, ?_⟩) ?_ ?_
              rotate_left
              · intro w'
                go_simp
                with_reducible rfl
              rotate_left
              · simp only [Act.put, List.setIfInBounds_toArray, List.set_cons_zero, List.set_cons_succ, i64_w, i32_w]
                rfl
              refine done_ (by kernel_rfl) ?_
  
              go_wp2
              go_roundw
              case rel => exact ⟨0 + 1, by omega, by rw [sAcc, HS0.out, HX.out, ← HY.out, if_neg (by decide)], by rw [wAcc, HV0.out, HX.out, HK2.out], by rw [sAcc, HS0.out, HX.out, ← HY.out, if_neg (by decide), ByteArray.size_append]; omega, by rw [wAcc, HV0.out, HX.out, HK2.out, ByteArray.size_append, HKS.out]; omega, by go_num, ⟨HA2.out.below H2.out⟩, ⟨HB2.out.trans (H2.out.mono HB2.out.size)⟩⟩
              case measure => first | (simp [RowKit.intOf]; done) | (simp [RowKit.intOf]; omega)
  
            · have e0 : (0 < n) = True := eq_true (by omega)
              have e1 : (9223372036854775807 < s0.size + 1) = False := eq_false (by omega)
              have e3 : (9223372036854775807 < s0.size + 1 + y.size) = False := eq_false (by omega)
              go_wp2
              refine start_ (n := 18) (S := fun w' => w'.cell? ⟨R, n, none⟩ = some (.int .u16 x)) (ds := []) #[false, false, false, false, false, false, false, false, false, false, false, false, false, false, false, false, false, false] (by kernel_rfl) rfl rfl (hcq) (fun hHeld => ?_)
              refine pure_ (i := 0) (N := some 93) (v := ?_) (a' := ?_) #[true, false, false, false, false, false, false, false, false, false, false, false, false, false, false, false, false, false] rfl rfl (by kernel_rfl) (fun _ _ _ h => h) (Or.inl ⟨by rfl, ?_⟩) ?_ ?_
              rotate_left
              · intro w'
                go_simp
                with_reducible rfl
              rotate_left
              · simp only [Act.put, List.setIfInBounds_toArray, List.set_cons_zero, List.set_cons_succ, i64_w, i32_w]
                rfl
              refine pure_ (i := 1) (N := some 94) (v := ?_) (a' := ?_) #[true, true, false, false, false, false, false, false, false, false, false, false, false, false, false, false, false, false] rfl rfl (by kernel_rfl) (fun _ _ _ h => h) (Or.inl ⟨by rfl, ?_⟩) ?_ ?_
              rotate_left
              · intro w'
                go_simp
                with_reducible rfl
              rotate_left
              · simp only [Act.put, List.setIfInBounds_toArray, List.set_cons_zero, List.set_cons_succ, i64_w, i32_w]
                rfl
              refine pure_ (i := 2) (N := some 95) (v := ?_) (a' := ?_) #[true, true, true, false, false, false, false, false, false, false, false, false, false, false, false, false, false, false] rfl rfl (by kernel_rfl) (fun _ _ _ h => h) (Or.inl ⟨by rfl, ?_⟩) ?_ ?_
              rotate_left
              · intro w'
                go_simp
                with_reducible rfl
              rotate_left
              · simp only [Act.put, List.setIfInBounds_toArray, List.set_cons_zero, List.set_cons_succ, i64_w, i32_w]
                rfl
              refine pure_ (i := 3) (N := some 96) (v := ?_) (a' := ?_) #[true, true, true, true, false, false, false, false, false, false, false, false, false, false, false, false, false, false] rfl rfl (by kernel_rfl) (fun _ _ _ h => h) (Or.inl ⟨by rfl, ?_⟩) ?_ ?_
              rotate_left
              · intro w'
                go_simp
                with_reducible rfl
              rotate_left
              · simp only [Act.put, List.setIfInBounds_toArray, List.set_cons_zero, List.set_cons_succ, i64_w, i32_w]
                rfl
              refine pure_ (i := 4) (N := some 97) (v := ?_) (a' := ?_) #[true, true, true, true, true, false, false, false, false, false, false, false, false, false, false, false, false, false] rfl rfl (by kernel_rfl) (fun _ _ _ h => h) (Or.inl ⟨by rfl, ?_⟩) ?_ ?_
              rotate_left
              · intro w'
                go_simp
                with_reducible rfl
              rotate_left
              · simp only [Act.put, List.setIfInBounds_toArray, List.set_cons_zero, List.set_cons_succ, i64_w, i32_w]
                rfl
              refine pure_ (i := 5) (N := some 98) (v := ?_) (a' := ?_) #[true, true, true, true, true, true, false, false, false, false, false, false, false, false, false, false, false, false] rfl rfl (by kernel_rfl) (fun _ _ _ h => h) (Or.inl ⟨by rfl, ?_⟩) ?_ ?_
              rotate_left
              · intro w'
                go_simp
                with_reducible rfl
              rotate_left
              · simp only [Act.put, List.setIfInBounds_toArray, List.set_cons_zero, List.set_cons_succ, i64_w, i32_w]
                rfl
              refine pure_ (i := 9) (N := some 102) (v := ?_) (a' := ?_) #[true, true, true, true, true, true, false, false, false, true, false, false, false, false, false, false, false, false] rfl rfl (by kernel_rfl) (fun _ _ _ h => h) (Or.inl ⟨by rfl, ?_⟩) ?_ ?_
              rotate_left
              · intro w'
                go_simp
                with_reducible rfl
              rotate_left
              · simp only [Act.put, List.setIfInBounds_toArray, List.set_cons_zero, List.set_cons_succ, i64_w, i32_w]
                rfl
              refine pure_ (i := 10) (N := some 103) (v := ?_) (a' := ?_) #[true, true, true, true, true, true, false, false, false, true, true, false, false, false, false, false, false, false] rfl rfl (by kernel_rfl) (fun _ _ _ h => h) (Or.inl ⟨by rfl, ?_⟩) ?_ ?_
              rotate_left
              · intro w'
                go_simp
                with_reducible rfl
              rotate_left
              · simp only [Act.put, List.setIfInBounds_toArray, List.set_cons_zero, List.set_cons_succ, i64_w, i32_w]
                rfl
              refine pure_ (i := 16) (N := some 6) (v := ?_) (a' := ?_) #[true, true, true, true, true, true, false, false, false, true, true, false, false, false, false, false, true, false] rfl rfl (by kernel_rfl) (fun _ _ _ h => h) (Or.inl ⟨by rfl, ?_⟩) ?_ ?_
              rotate_left
              · intro w'
                go_simp
                with_reducible rfl
              rotate_left
              · simp only [Act.put, List.setIfInBounds_toArray, List.set_cons_zero, List.set_cons_succ, i64_w, i32_w]
                rfl
              refine take_ (i := 6) (N := some 99) (v := ?_) (a' := ?_) #[true, true, true, true, true, true, true, false, false, true, true, false, false, false, false, false, true, false] rfl rfl (by kernel_rfl) (fun _ _ _ h => h) (Or.inl ⟨by rfl, ?_⟩) hHeld ?_ ?_
              rotate_left
              · intro w' s0
                go_simp
                with_reducible rfl
              rotate_left
              · simp only [Act.put, List.setIfInBounds_toArray, List.set_cons_zero, List.set_cons_succ, i64_w, i32_w]
                rfl
              refine pure_ (i := 7) (N := some 100) (v := ?_) (a' := ?_) #[true, true, true, true, true, true, true, true, false, true, true, false, false, false, false, false, true, false] rfl rfl (by kernel_rfl) (fun _ _ _ h => h) (Or.inl ⟨by rfl, ?_⟩) ?_ ?_
              rotate_left
              · intro w'
                go_simp
                with_reducible rfl
              rotate_left
              · simp only [Act.put, List.setIfInBounds_toArray, List.set_cons_zero, List.set_cons_succ, i64_w, i32_w]
                rfl
              refine pure_ (i := 8) (N := some 101) (v := ?_) (a' := ?_) #[true, true, true, true, true, true, true, true, true, true, true, false, false, false, false, false, true, false] rfl rfl (by kernel_rfl) (fun _ _ _ h => h) (Or.inl ⟨by rfl, ?_⟩) ?_ ?_
              rotate_left
              · intro w'
                go_simp
                with_reducible rfl
              rotate_left
              · simp only [Act.put, List.setIfInBounds_toArray, List.set_cons_zero, List.set_cons_succ, i64_w, i32_w]
                rfl
              refine take_ (i := 11) (N := some 104) (v := ?_) (a' := ?_) #[true, true, true, true, true, true, true, true, true, true, true, true, false, false, false, false, true, false] rfl rfl (by kernel_rfl) (fun _ _ _ h => h) (Or.inl ⟨by rfl, ?_⟩) hHeld ?_ ?_
              rotate_left
              · intro w' s0
                go_simp
                with_reducible rfl
              rotate_left
              · simp only [Act.put, List.setIfInBounds_toArray, List.set_cons_zero, List.set_cons_succ, i64_w, i32_w]
                rfl
              refine pure_ (i := 12) (N := some 105) (v := ?_) (a' := ?_) #[true, true, true, true, true, true, true, true, true, true, true, true, true, false, false, false, true, false] rfl rfl (by kernel_rfl) (fun _ _ _ h => h) (Or.inl ⟨by rfl, ?_⟩) ?_ ?_
              rotate_left
              · intro w'
                go_simp
                with_reducible rfl
              rotate_left
              · simp only [Act.put, List.setIfInBounds_toArray, List.set_cons_zero, List.set_cons_succ, i64_w, i32_w]
                rfl
              refine one_ (i := 13) (N := some 106) #[true, true, true, true, true, true, true, true, true, true, true, true, true, true, false, false, true, false] rfl rfl (by kernel_rfl) (by decide) (fun K hK => ?_)
              refine value_ (w1 := ?_) (v := ?_) (by rfl) rfl ?_ ?_
              rotate_left 2
              · go_simp
                constructor
                · rfl
                · rfl
              have H2 : Aside0 (Below wr.heap.size wr ((wr.alloc (.cells #[.int .u8 (x / 256), .int .u8 (x % 256)] 5)).drew)) := ⟨((Below.refl _ _).alloc (Nat.le_refl _) _).drew⟩
              refine hK.out _ _ ((H2.out.cell (p := ⟨R, n, none⟩) (blk_lt HA2.out)).trans hcq) (fun hHeld => ?_)
              clear hK K
              refine norm_ (a' := ?_) ?_ ?_
              rotate_left
              · show Act.put _ (some 106) _ = _
                simp only [Act.put, List.setIfInBounds_toArray, List.set_cons_zero, List.set_cons_succ, i64_w, i32_w]
                rfl
              refine one_ (i := 14) (N := some 107) #[true, true, true, true, true, true, true, true, true, true, true, true, true, true, true, false, true, false] rfl rfl (by kernel_rfl) (by decide) (fun K hK => ?_)
              have hcv := string_of_reads (P := Tryd.prog) (src := 39) (dst := 9) (e := 5) (c := 2) Tryd.underlying39 Tryd.underlying5 Tryd.underlying9 (two8 wr (x / 256) (x % 256))
              rw [HK2.out] at hcv
              refine value_ (w1 := ?_) (v := ?_) (by rfl) rfl ?_ ?_
              rotate_left 2
              · go_simp
                constructor
                · rfl
                · rfl
              refine hK.out _ _ ((H2.out.cell (p := ⟨R, n, none⟩) (blk_lt HA2.out)).trans hcq) (fun hHeld => ?_)
              clear hK K
              refine norm_ (a' := ?_) ?_ ?_
              rotate_left
              · show Act.put _ (some 107) _ = _
                simp only [Act.put, List.setIfInBounds_toArray, List.set_cons_zero, List.set_cons_succ, i64_w, i32_w]
                rfl
              refine pure_ (i := 15) (N := some 108) (v := ?_) (a' := ?_) #[true, true, true, true, true, true, true, true, true, true, true, true, true, true, true, true, true, false] rfl rfl (by kernel_rfl) (fun _ _ _ h => h) (Or.inl ⟨by rfl, ?_⟩) ?_ ?_
              rotate_left
              · intro w'
                go_simp
                with_reducible rfl
              rotate_left
              · simp only [Act.put, List.setIfInBounds_toArray, List.set_cons_zero, List.set_cons_succ, i64_w, i32_w]
                rfl
              refine pure_ (i := 17) (N := some 7) (v := ?_) (a' := ?_) #[true, true, true, true, true, true, true, true, true, true, true, true, true, true, true, true, true, true] rfl rfl (by kernel_rfl) (fun _ _ _ h => h) (Or.inl ⟨by rfl, ?_⟩) ?_ ?_
              rotate_left
              · intro w'
                go_simp
                with_reducible rfl
              rotate_left
              · simp only [Act.put, List.setIfInBounds_toArray, List.set_cons_zero, List.set_cons_succ, i64_w, i32_w]
                rfl
              refine done_ (by kernel_rfl) ?_
  
              go_wp2
              go_roundw
              case rel => exact ⟨n + 1, by omega, by rw [sAcc, HS0.out, HX.out, ← HY.out, if_pos (by omega)], by rw [wAcc, HV0.out, HX.out, HK2.out], by rw [sAcc, HS0.out, HX.out, ← HY.out, if_pos (by omega), ByteArray.size_append]; rw [ByteArray.size_append]; have h1_ : (⟨#[58]⟩ : ByteArray).size = 1 := rfl; omega, by rw [wAcc, HV0.out, HX.out, HK2.out, ByteArray.size_append, HKS.out]; omega, by go_num, ⟨HA2.out.below H2.out⟩, ⟨HB2.out.trans (H2.out.mono HB2.out.size)⟩⟩
              case measure => first | (simp [RowKit.intOf]; done) | (simp [RowKit.intOf]; omega)
  
    · obtain rfl : n = 8 := by omega
      rw [HS.out, HV.out]
      have l1 : decide ((t.size : Int) ≤ (S.size : Int)) = true := decide_eq_true (by have := H5.out; omega)
      have l2 : (t.size ≤ S.size) = True := eq_true H5.out
      clear hs5 hv2 hn hlt
      go_wp2_with (first
        | (go_at_call 14; (with_reducible refine (H1.out _ (HG.out.below HB.out)).mono ?_); rintro e w4 ⟨rfl, hb4⟩; have HB4 := Aside0.mk (HB.out.trans (hb4.mono HB.out.size)); clear hb4)
        | (go_at_call 16; (with_reducible refine (H2.out _).mono ?_); rintro e w5 ⟨rfl, hb5⟩; have f5 := (hb5.block w4.heap.size (by simp)).trans (World.alloc_heap_new w4 (.cells #[.bool true, .int .u64 hi, .int .u64 lo] 24)); have F5 := Aside0.mk f5; have HB5 := Aside0.mk ((below_alloc HB4.out _).trans (hb5.mono (below_alloc HB4.out (.cells #[.bool true, .int .u64 hi, .int .u64 lo] 24)).size)); clear hb5; have q0 := blk_cell f5 0; have q1 := blk_cell f5 1; have q2 := blk_cell f5 2; have qf0 := blk_frozen f5 0; have qf1 := blk_frozen f5 1; have qf2 := blk_frozen f5 2; clear f5; simp only [List.getElem?_toArray, List.getElem?_cons_zero, List.getElem?_cons_succ] at q0 q1 q2)
        | (go_at_call 15; (with_reducible refine (H3.out _ (HG.out.below HB5.out)).mono ?_); rintro e w6 ⟨rfl, hb6⟩; have F6 := Aside0.mk ((hb6.block _ (blk_lt F5.out)).trans F5.out); have HB6 := Aside0.mk (HB5.out.trans (hb6.mono HB5.out.size)); clear hb6)
        | (go_at_call 14; (with_reducible refine (H4.out _ (HG.out.below HB6.out)).mono ?_); rintro e w7 ⟨rfl, hb7⟩; have f7 := (hb7.block _ (blk_lt F6.out)).trans F6.out; have HB7 := Aside0.mk (HB6.out.trans (hb7.mono HB6.out.size)); clear hb7; have r0 := fun o => blk_cell (blk_alloc f7 o) 0; have r1 := fun o => blk_cell (blk_alloc f7 o) 1; have r2 := fun o => blk_cell (blk_alloc f7 o) 2; have rf0 := fun o => blk_frozen (blk_alloc f7 o) 0; have rf1 := fun o => blk_frozen (blk_alloc f7 o) 1; have rf2 := fun o => blk_frozen (blk_alloc f7 o) 2; clear f7; simp only [List.getElem?_toArray, List.getElem?_cons_zero, List.getElem?_cons_succ] at r0 r1 r2))
      go_ret
      exact ⟨rfl, below_alloc HB7.out _⟩
end
end Go.Proofs.YtilobbjnmnnmnaaDoor.AddrLib
