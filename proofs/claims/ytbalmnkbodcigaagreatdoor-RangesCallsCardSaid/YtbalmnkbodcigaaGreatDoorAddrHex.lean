/- What strconv.FormatUint comes to, base 16, at numbers of 16 bits: their digits. -/
import Derived.Test.YtbalmnkbodcigaaGreatDoorAddrWorld
import Derived.Shelf.Spec.TrailingZeros
set_option linter.unusedSimpArgs false
set_option linter.unusedVariables false
namespace Go.Proofs.YtbalmnkbodcigaaGreatDoor.AddrLib
open Go.Shelf Go.RowKit Go.Lib Go.Proofs.YtbalmnkbodcigaaGreatDoorW.PrintWords Go.Proofs.YtbalmnkbodcigaaGreatDoorW.PrintLast Go.Proofs.YtbalmnkbodcigaaGreatDoorW.PrintMore

theorem tz64_ (w : World) (hg : G w) : Calls Tryz.prog 127 #[.int .u64 16] w fun e w' => e = .returned (.int .i64 4) ∧ w = w' := by
  have hc := hg.tz
  have key : IntKind.u64.wrap (Go.bits BinOp.and IntKind.u64 16 (IntKind.u64.wrap (-16)) * 285870213051353865) / 288230376151711744 = 15 := by decide +kernel
  have key2 : Go.bits BinOp.and IntKind.u64 16 18446744073709551600 * 285870213051353865 % 18446744073709551616 / 288230376151711744 = 15 := by decide +kernel
  clear hg
  go_enter Tryz.func127, Tryz.ntmps127
  go_wp2_with (first | simp only [key] | simp only [key2])
  go_ret
  exact ⟨rfl, rfl⟩
theorem tz_ (w : World) (hg : G w) : Calls Tryz.prog 112 #[.int .u64 16] w fun e w' => e = .returned (.int .i64 4) ∧ w = w' := by
  have HG := Aside0.mk hg
  clear hg
  go_enter Tryz.func112, Tryz.ntmps112
  go_wp2_with (go_at_call 127; (with_reducible refine (tz64_ _ HG.out).mono ?_); rintro e w' ⟨rfl, rfl⟩)
  go_ret
  exact ⟨rfl, rfl⟩
theorem pow2_ (w : World) : Calls Tryz.prog 111 #[.int .i64 16] w fun e w' => e = .returned (.bool true) ∧ w = w' := by
  have key : Go.bits BinOp.and IntKind.i64 16 15 = 0 := by decide +kernel
  go_enter Tryz.func111, Tryz.ntmps111
  go_wp2_with (simp only [key])
  go_ret
  exact ⟨rfl, rfl⟩
def hexs : ByteArray := ⟨List.toArray (48 :: 49 :: 50 :: 51 :: 52 :: 53 :: 54 :: 55 :: 56 :: 57 :: 97 :: 98 :: 99 :: 100 :: 101 :: 102 :: 103 :: 104 :: 105 :: 106 :: 107 :: 108 :: 109 :: 110 :: 111 :: 112 :: 113 :: 114 :: 115 :: 116 :: 117 :: 118 :: 119 :: 120 :: 121 :: 122 :: [])⟩
theorem hexs_at : ∀ d : Fin 16, ((hexs[d.val]!).toNat : Int) = ((hexD d.val).toNat : Int) := by decide +kernel
/-- The last k digits. -/
def tailK (u : Nat) : Nat → List UInt8
  | 0 => []
  | k + 1 => hexD (u / 16 ^ k % 16) :: tailK u k
theorem ArrI.reads {W : World} {T g : Nat} {xs : List Int} (h : ArrI W T g xs) (o : Nat) (hl : xs.length ≤ 1000) : Kd.C (Kd.int .u8) W (some ⟨g, o, none⟩) (xs.drop o).length (xs.drop o) := by
  refine Kd.C_of_reads (d := (0 : Int)) (h1 := fun _ => rfl) ⟨rfl, by rw [List.length_drop]; omega, fun _ => ⟨_, rfl, fun j hj => ?_⟩⟩
  rw [List.length_drop] at hj
  rw [show (Addr.add ⟨g, o, none⟩ j : Addr) = ⟨g, o + j, none⟩ from by simp [Addr.add], h.cell (o + j) (by omega), List.getD_eq_getElem?_getD, List.getD_eq_getElem?_getD, List.getElem?_drop]
theorem tail_hex (u k : Nat) (hu : u ≤ 65535) (hk : u / 16 ^ k < 16) (hm : ∀ j, j < k → 16 ≤ u / 16 ^ j) : hexD (u / 16 ^ k) :: tailK u k = hexL u := by
  have h3 : k ≤ 3 := by
    by_cases h : k ≤ 3
    · exact h
    · have := hm 3 (by omega); omega
  unfold hexL
  match k, h3 with
  | 0, _ =>
    have e : u / 16 ^ 0 = u := by simp
    rw [e] at hk ⊢
    rw [if_pos hk]; rfl
  | 1, _ =>
    have := hm 0 (by omega)
    rw [if_neg (by omega), if_pos (by omega)]
    simp [tailK]
  | 2, _ =>
    have := hm 1 (by omega)
    rw [if_neg (by omega), if_neg (by omega), if_pos (by omega)]
    simp [tailK]
  | 3, _ =>
    have := hm 2 (by omega)
    rw [if_neg (by omega), if_neg (by omega), if_neg (by omega)]
    simp [tailK]
theorem hexs_size : hexs.size = 36 := by decide
theorem hexs_byte (d : Nat) (h : d < 16) : ((hexs[d]'(by rw [hexs_size]; omega)).toNat : Int) = ((hexD d).toNat : Int) := by
  have := hexs_at ⟨d, h⟩
  rw [getElem!_pos hexs d (by rw [hexs_size]; omega)] at this
  exact this
theorem tailK_length (u : Nat) : ∀ k, (tailK u k).length = k
  | 0 => rfl
  | k + 1 => by show (tailK u k).length + 1 = k + 1; rw [tailK_length u k]
theorem set_drop {bs : List Int} {k : Nat} {l : List Int} (hl : bs.length = 65) (hk : k ≤ 3) (h : bs.drop (65 - k) = l) (b : UInt8) : (bs.set (65 - k - 1) (b.toNat : Int)).drop (65 - k - 1) = (b.toNat : Int) :: l := by
  have e : 65 - k - 1 < (bs.set (65 - k - 1) (b.toNat : Int)).length := by rw [List.length_set]; omega
  rw [List.drop_eq_getElem_cons e, List.getElem_set_self, ← h]
  congr 1
  rw [show 65 - k - 1 + 1 = 65 - k by omega, List.drop_set_of_lt (by omega)]
theorem str_of_bytes (l : List UInt8) : strOfNums (l.map fun b => (b.toNat : Int)) = mkB l := by
  unfold strOfNums mkB
  rw [List.map_map, show ((fun n : Int => UInt8.ofNat n.toNat) ∘ fun b : UInt8 => (b.toNat : Int)) = id from by funext b; simp, List.map_id]
theorem arr65 : Tryz.prog.arrayLen 138 = 65 := by kernel_rfl
theorem slice65 (G k : Nat) (hk : k ≤ 3) (W : World) : (Instr.sliceAt 138 (.pointer (some ⟨G, 0, none⟩)) (some (.int .i64 (65 - (k : Int) - 1))) none none).run Tryz.prog W = .ok (.slice (some ⟨G, 65 - k - 1, none⟩) (k + 1) (k + 1)) W := by
  rw [run_sliceAt_array_l W 138 ⟨G, 0, none⟩ (by kernel_rfl) .i64 (65 - (k : Int) - 1) (by omega) (by rw [arr65]; omega), arr65, show Tryz.prog.elem 138 = 5 from by kernel_rfl, Tryz.sizeOf5]
  unfold slicedAt
  have e : (65 - (k : Int) - 1).toNat = 65 - k - 1 := by omega
  simp only [Result.andThen_ok]
  rw [e, if_neg (by omega), show 65 - (65 - k - 1) = k + 1 by omega, Nat.mul_one]
  simp [Addr.add]
  omega
theorem and15 (v : Nat) (h : v < 18446744073709551616) : Go.bits .and .u64 (v : Int) 15 = ((v % 16 : Nat) : Int) := by
  have := bits_and_u64_nat v 15 h (by decide)
  rw [show ((15 : Nat) : Int) = 15 from rfl] at this
  rw [this]
  congr 1
  exact Nat.and_two_pow_sub_one_eq_mod v 4
set_option maxHeartbeats 4000000 in
set_option maxRecDepth 100000 in
theorem bits16 (u : Nat) (hu : u ≤ 65535) (w : World) (hg : G w) :
    Calls Tryz.prog 96 #[.slice none 0 0, .int .u64 u, .int .i64 16, .bool false, .bool false] w fun e w' => e = .returned (.tuple #[.slice none 0 0, .string (mkB (hexL u))]) ∧ Below w.heap.size w w' := by
  have HG := Aside0.mk hg
  have HB0 := Aside0.mk (Below.refl w.heap.size w)
  clear hg
  go_enter Tryz.func96, Tryz.ntmps96
  go_wp2_with (first
    | (go_at_call 111; (with_reducible refine (pow2_ _).mono ?_); rintro e w' ⟨rfl, rfl⟩)
    | (go_at_call 112; (with_reducible refine (tz_ _ (HG.out.below (below_alloc (Below.refl _ _) _))).mono ?_); rintro e w' ⟨rfl, rfl⟩))
  have hz : Tryz.zeroCells138 = ((List.replicate 65 (0 : Int)).map (Value.int .u8)).toArray := by kernel_rfl
  have HARR : Aside0 (ArrI (w.alloc (.cells Tryz.zeroCells138 138)) 138 w.heap.size (List.replicate 65 0)) := ⟨by rw [hz]; exact heap_alloc_new w _⟩
  have HB : Aside0 (Below w.heap.size w (w.alloc (.cells Tryz.zeroCells138 138))) := ⟨below_alloc (Below.refl _ _) _⟩
  clear hz
  obtain ⟨G, hG⟩ : ∃ G, G = w.heap.size := ⟨_, rfl⟩
  rw [← hG] at HARR ⊢
  have HGW := Aside0.mk hG
  clear hG HB0
  go_loopw [1, 13] (fun n i wr => ∃ (k : Nat) (bs : List Int), k ≤ 3 ∧ n = .int .u64 ((u / 16 ^ k : Nat) : Int) ∧ i = .int .i64 (65 - k) ∧ Aside0 (bs.length = 65) ∧ Aside0 (bs.drop (65 - k) = (tailK u k).map fun b => (b.toNat : Int)) ∧ Aside0 (∀ j, j < k → 16 ≤ u / 16 ^ j) ∧ Aside0 (ArrI wr 138 G bs) ∧ Aside0 (Below w.heap.size w wr)) (fun _ i _ => (RowKit.intOf i).toNat)
  case atStart => exact ⟨0, List.replicate 65 0, by omega, by simp, rfl, ⟨by simp⟩, ⟨by simp [tailK]⟩, ⟨fun j h => absurd h (Nat.not_lt_zero _)⟩, HARR, HB⟩
  case round =>
    clear HARR HB
    obtain ⟨k, bs, hk, rfl, rfl, HL, HT, HM, HARR, HB⟩ := hrel
    obtain ⟨v, hv⟩ : ∃ v, v = u / 16 ^ k := ⟨_, rfl⟩
    have hvu : v ≤ 65535 := by rw [hv]; exact Nat.le_trans (Nat.div_le_self _ _) hu
    have HV := Aside0.mk hv
    rw [← hv]
    clear hv
    have HH := Aside0.mk (fun (d : Nat) (h : d < 16) => hexs_byte d h)
    by_cases hlt : v < 16
    · have d1 : decide (16 ≤ (v : Int)) = false := decide_eq_false (by omega)
      have ha := HARR.out.cell (65 - k - 1) (by rw [HL.out]; omega)
      have hf := HARR.out.free (65 - k - 1)
      have hsl : ∀ W, (Instr.sliceAt 138 (.pointer (some ⟨G, 0, none⟩)) (some (.int .i64 (65 - (k : Int) - 1))) none none).run Tryz.prog W = .ok (.slice (some ⟨G, 65 - k - 1, none⟩) (k + 1) (k + 1)) W := fun W => slice65 G k hk W
      have d36 : (v : Int) < 36 := by omega
      have hvl : (Value.int .u8 ((hexs[v]'(by rw [hexs_size]; omega)).toNat : Int)) = Value.int .u8 ((hexD v).toNat : Int) := by rw [HH.out v hlt]
      have HARR2 := Aside0.mk (HARR.out.set (65 - k - 1) ((hexD v).toNat : Int))
      have HLB : Aside0 ((bs.set (65 - k - 1) ((hexD v).toNat : Int)).drop (65 - k - 1) = ((hexD v) :: tailK u k).map fun b => (b.toNat : Int)) := ⟨set_drop HL.out hk HT.out (hexD v)⟩
      have HCV := Kd.C_string (P := Tryz.prog) (c := k + 1) Tryz.underlying51 Tryz.underlying5 Tryz.underlying9 (HARR2.out.reads (65 - k - 1) (by rw [List.length_set, HL.out]; omega))
      rw [HLB.out] at HCV
      have hln : ((hexD v :: tailK u k).map fun b => (b.toNat : Int)).length = k + 1 := by rw [List.length_map, List.length_cons, tailK_length]
      rw [hln, str_of_bytes, HV.out, tail_hex u k hu (by rw [← HV.out]; exact hlt) HM.out, ← HV.out, ← hvl] at HCV
      clear hvl hln
      unfold hexs at HCV
      go_wp2
      go_ret2
      exact ⟨rfl, HB.out.setCell (by show w.heap.size ≤ G; rw [← HGW.out]; exact Nat.le_refl _) _⟩
    · have d1 : decide (16 ≤ (v : Int)) = true := decide_eq_true (by omega)
      have ha := HARR.out.cell (65 - k - 1) (by rw [HL.out]; omega)
      have hf := HARR.out.free (65 - k - 1)
      have hand := and15 v (by omega)
      have d36 : ((v % 16 : Nat) : Int) < 36 := by omega
      have hk2 : k ≤ 2 := by
        by_cases h : k ≤ 2
        · exact h
        · have e : k = 3 := by omega
          have := HV.out
          rw [e] at this
          omega
      have HARR2 := Aside0.mk (HARR.out.set (65 - k - 1) ((hexs[v % 16]'(by rw [hexs_size]; omega)).toNat : Int))
      have HLB : Aside0 ((bs.set (65 - k - 1) ((hexs[v % 16]'(by rw [hexs_size]; omega)).toNat : Int)).drop (65 - (k + 1)) = (tailK u (k + 1)).map fun b => (b.toNat : Int)) := ⟨by
        rw [HH.out (v % 16) (Nat.mod_lt _ (by decide)), show 65 - (k + 1) = 65 - k - 1 by omega, set_drop HL.out hk HT.out (hexD (v % 16)), HV.out]; rfl⟩
      have HM2 : Aside0 (∀ j, j < k + 1 → 16 ≤ u / 16 ^ j) := ⟨fun j hj => by
        by_cases e : j = k
        · rw [e, ← HV.out]; omega
        · exact HM.out j (by omega)⟩
      have HVN : Aside0 ((v : Int) / 16 = ((u / 16 ^ (k + 1) : Nat) : Int)) := ⟨by rw [Nat.pow_succ, ← Nat.div_div_eq_div_mul, ← HV.out]; omega⟩
      go_wp2
      go_roundw
      case rel => exact ⟨k + 1, _, by omega, by rw [HVN.out], by rw [show (65 - (k : Int) - 1) = 65 - ((k + 1 : Nat) : Int) by omega], ⟨by rw [List.length_set]; exact HL.out⟩, HLB, HM2, HARR2, ⟨HB.out.setCell (by show w.heap.size ≤ G; rw [← HGW.out]; exact Nat.le_refl _) _⟩⟩
      case measure => simp [RowKit.intOf]; omega
set_option maxRecDepth 100000 in
theorem ifmt16 (u : Nat) (hu : u ≤ 65535) (w : World) (hg : G w) :
    Calls Tryz.prog 92 #[.int .u64 u, .int .i64 16] w fun e w' => e = .returned (.string (mkB (hexL u))) ∧ Below w.heap.size w w' := by
  have HC := Aside0.mk (bits16 u hu w hg)
  clear hg
  go_enter Tryz.func92, Tryz.ntmps92
  go_wp2_with (go_at_call 96; (with_reducible refine HC.out.mono ?_); rintro e w' ⟨rfl, hb⟩; have HB := Aside0.mk hb; clear hb)
  go_ret
  exact ⟨rfl, HB.out⟩
set_option maxRecDepth 100000 in
theorem fmt16 (u : Nat) (hu : u ≤ 65535) (w : World) (hg : G w) :
    Calls Tryz.prog 78 #[.int .u64 u, .int .i64 16] w fun e w' => e = .returned (.string (mkB (hexL u))) ∧ Below w.heap.size w w' := by
  have HC := Aside0.mk (ifmt16 u hu w hg)
  clear hg
  go_enter Tryz.func78, Tryz.ntmps78
  go_wp2_with (go_at_call 92; (with_reducible refine HC.out.mono ?_); rintro e w' ⟨rfl, hb⟩; have HB := Aside0.mk hb; clear hb)
  go_ret
  exact ⟨rfl, HB.out⟩
end Go.Proofs.YtbalmnkbodcigaaGreatDoor.AddrLib
