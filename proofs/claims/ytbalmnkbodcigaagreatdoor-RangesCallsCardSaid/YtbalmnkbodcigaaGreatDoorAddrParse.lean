/- What internal/strconv.ParseUint comes to at one to four digits of base 10 or 16, of 32 bits: their value, and no error; below the heap's end the memory is as it was. -/
import Derived.Test.YtbalmnkbodcigaaGreatDoorAddrLib
import Derived.Test.YtbalmnkbodcigaaGreatDoorPlain
namespace Go.Proofs.YtbalmnkbodcigaaGreatDoor.AddrLib
open Go.Shelf Go.RowKit Go.Lib Go.Proofs.YtbalmnkbodcigaaGreatDoorW.PrintWords Go.Proofs.YtbalmnkbodcigaaGreatDoorW.PrintLast Go.Proofs.YtbalmnkbodcigaaGreatDoorW.PrintMore

def digI (c : Int) : Int := if 48 ≤ c ∧ c ≤ 57 then c - 48 else if 97 ≤ c ∧ c ≤ 102 then c - 87 else if 65 ≤ c ∧ c ≤ 70 then c - 55 else 99
def valI (B : Int) (xs : List Int) : Int := xs.foldl (fun n c => n * B + digI c) 0
theorem valI_snoc (B : Int) (xs : List Int) (c : Int) : valI B (xs ++ [c]) = valI B xs * B + digI c := by
  unfold valI
  rw [List.foldl_append]
  rfl
theorem digI_cases {c B : Int} (h : digI c < B) (hB : B ≤ 16) : (48 ≤ c ∧ c ≤ 57 ∧ digI c = c - 48) ∨ (97 ≤ c ∧ c ≤ 102 ∧ digI c = c - 87) ∨ (65 ≤ c ∧ c ≤ 70 ∧ digI c = c - 55) := by
  unfold digI at *
  split at h
  · rename_i h1; rw [if_pos h1]; omega
  · rename_i h1
    rw [if_neg h1]
    split at h
    · rename_i h2; rw [if_pos h2]; omega
    · rename_i h2
      rw [if_neg h2]
      split at h
      · rename_i h3; rw [if_pos h3]; omega
      · omega
theorem foldI_bound {B : Int} (h2 : 2 ≤ B) (h16 : B ≤ 16) : ∀ (xs : List Int) (acc m : Int), (∀ x ∈ xs, digI x < B) → 0 ≤ acc → acc + 1 ≤ m → 0 ≤ xs.foldl (fun n c => n * B + digI c) acc ∧ xs.foldl (fun n c => n * B + digI c) acc + 1 ≤ m * 16 ^ xs.length := by
  intro xs
  induction xs with
  | nil => intro acc m _ h0 h1; simp; omega
  | cons c t ih =>
    intro acc m h h0 h1
    have hc := digI_cases (h c (by simp)) h16
    have hd := h c (by simp)
    have hm : acc * B ≤ acc * 16 := Int.mul_le_mul_of_nonneg_left h16 h0
    have hm0 : 0 ≤ acc * B := Int.mul_nonneg h0 (by omega)
    have := ih (acc * B + digI c) (m * 16) (fun x hx => h x (by simp [hx])) (by omega) (by omega)
    rw [List.foldl_cons, List.length_cons, Int.pow_succ, Int.mul_comm (16 ^ t.length) 16, ← Int.mul_assoc]
    exact this
theorem valI_bound {B : Int} (h2 : 2 ≤ B) (h16 : B ≤ 16) (xs : List Int) (h : ∀ x ∈ xs, digI x < B) : 0 ≤ valI B xs ∧ (xs.length ≤ 3 → valI B xs ≤ 4095) ∧ (xs.length ≤ 4 → valI B xs ≤ 65535) := by
  have hb := foldI_bound h2 h16 xs 0 1 h (by omega) (by omega)
  refine ⟨hb.1, fun hl => ?_, fun hl => ?_⟩
  · have := hb.2
    have hp : (1 : Int) * 16 ^ xs.length ≤ 4096 := by
      generalize xs.length = n at hl
      match n, hl with
      | 0, _ => decide
      | 1, _ => decide
      | 2, _ => decide
      | 3, _ => decide
    unfold valI; omega
  · have := hb.2
    have hp : (1 : Int) * 16 ^ xs.length ≤ 65536 := by
      generalize xs.length = n at hl
      match n, hl with
      | 0, _ => decide
      | 1, _ => decide
      | 2, _ => decide
      | 3, _ => decide
      | 4, _ => decide
    unfold valI; omega
theorem lower_ (c r : Int) (h : Go.bits .or .u8 c 32 = r) (w : World) : Calls Tryz.prog 120 #[.int .u8 c] w fun e w' => e = .returned (.int .u8 r) ∧ w = w' := by
  go_enter Tryz.func120, Tryz.ntmps120
  go_wp2
  go_ret
  subst h
  exact ⟨rfl, rfl⟩
theorem low_small {c : Int} (h : 97 ≤ c) (h' : c ≤ 102) : Go.bits .or .u8 c 32 = c := by
  have : c = 97 ∨ c = 98 ∨ c = 99 ∨ c = 100 ∨ c = 101 ∨ c = 102 := by omega
  rcases this with rfl | rfl | rfl | rfl | rfl | rfl <;> decide
theorem low_great {c : Int} (h : 65 ≤ c) (h' : c ≤ 70) : Go.bits .or .u8 c 32 = c + 32 := by
  have : c = 65 ∨ c = 66 ∨ c = 67 ∨ c = 68 ∨ c = 69 ∨ c = 70 := by omega
  rcases this with rfl | rfl | rfl | rfl | rfl | rfl <;> decide
theorem take_rd {xs : List Int} {k : Nat} (h : k < xs.length) : xs.take (k + 1) = xs.take k ++ [xs.getD k 0] := by
  rw [List.take_succ_eq_append_getElem h, List.getD_eq_getElem?_getD, List.getElem?_eq_getElem h]
  rfl
set_option maxHeartbeats 4000000 in
set_option maxRecDepth 100000 in
theorem parse10 (s : ByteArray) (h0 : 1 ≤ s.size) (h4 : s.size ≤ 4) (hd : ∀ x ∈ bytesOf s, digI x < 10) (w : World) :
    Calls Tryz.prog 104 #[.string s, .int .i64 10, .int .i64 32] w fun e w' => e = .returned (.tuple #[.int .u64 (valI 10 (bytesOf s)), .nilIface]) ∧ Below w.heap.size w w' := by
  have HB := Aside0.mk (Below.refl w.heap.size w)
  obtain ⟨xs, hxs⟩ : ∃ xs, xs = bytesOf s := ⟨_, rfl⟩
  have hlen : xs.length = s.size := by rw [hxs, bytesOf_length]
  rw [← hxs] at hd ⊢
  have HXS := Aside0.mk hxs
  have HD := Aside0.mk hd
  have he : s.toList.isEmpty = false := by
    cases hl : s.toList with
    | nil =>
      rw [ByteArray.toList_eq] at hl
      have : s.data.toList.length = 0 := by rw [hl]; rfl
      rw [data_length] at this
      omega
    | cons _ _ => rfl
  have hl4 : xs.length ≤ 4 := by omega
  clear hxs hd hlen
  go_enter Tryz.func104, Tryz.ntmps104
  go_wp2_with ((with_reducible refine gate_dst (N := 99) rfl ?_); refine conv_event (src := 9) (dst := 51) (e := 5) (s := s) (w := w) rfl (N := 99) rfl Tryz.underlying9 Tryz.underlying51 Tryz.underlying5 ?cvr (by omega) HB.out ?_; (case cvr => intro kb_; first | (go_simp; done) | (go_simp; rfl)); intro A c w1 hrow hc hb; have HROW := Aside0.mk hrow; have HB2 := Aside0.mk hb; clear hrow hc hb)
  rw [← HXS.out] at HROW ⊢
  go_loopw [12, 13, 101] (fun u n i wr => u = .bool false ∧ ∃ k : Nat, k ≤ xs.length ∧ i = .int .i64 k ∧ n = .int .u64 (valI 10 (xs.take k)) ∧ Aside0 (Kd.C (Kd.int .u8) wr A xs.length xs) ∧ Aside0 (Below w.heap.size w wr)) (fun _ _ i _ => xs.length - (RowKit.intOf i).toNat)
  case atStart => exact ⟨rfl, 0, Nat.zero_le _, rfl, rfl, HROW, HB2⟩
  case round =>
    clear HROW HB2 HB
    obtain ⟨rfl, k, hk, rfl, rfl, HR, HB⟩ := hrel
    by_cases hlt : k < xs.length
    · have HT := Aside0.mk (take_rd hlt)
      have hx : xs.getD k 0 ∈ xs := by rw [List.getD_eq_getElem?_getD, List.getElem?_eq_getElem hlt]; exact List.getElem_mem hlt
      have hdx := HD.out _ hx
      have hc := digI_cases hdx (by omega)
      have hv := valI_bound (B := 10) (by omega) (by omega) (xs.take k) (fun x hx => HD.out x (List.mem_of_mem_take hx))
      have hv1 := hv.2.1 (by rw [List.length_take]; omega)
      have hv0 := hv.1
      clear hv
      obtain ⟨ad, had, hcell⟩ := Kd.at_int HR.out (k : Int) (by omega) (by omega)
      subst had
      rw [show rd xs (k : Int) = xs.getD k 0 by unfold rd; rw [Int.toNat_natCast], Int.toNat_natCast] at hcell
      have hs := valI_snoc 10 (xs.take k) (xs.getD k 0)
      rw [← HT.out] at hs
      have HS := Aside0.mk hs
      clear hs hx
      generalize xs.getD k 0 = x at hdx hc hcell HS HT
      generalize valI 10 (xs.take k) = v at hv0 hv1 HS ⊢
      clear HT
      rcases hc with ⟨a1, a2, a3⟩ | ⟨a1, a2, a3⟩ | ⟨a1, a2, a3⟩
      · rw [a3] at HS
        clear hdx a3
        go_wp2
        go_roundw
        case rel => exact ⟨rfl, k + 1, by omega, by go_num, by rw [HS.out], HR, HB⟩
        case measure => simp [RowKit.intOf]; omega
      · omega
      · omega
    · have hk' : k = xs.length := by omega
      subst hk'
      go_wp2
      go_ret2
      exact ⟨by first | rfl | (rw [List.take_length]; rfl), HB.out⟩
set_option maxHeartbeats 4000000 in
set_option maxRecDepth 100000 in
theorem parse16 (s : ByteArray) (h0 : 1 ≤ s.size) (h4 : s.size ≤ 4) (hd : ∀ x ∈ bytesOf s, digI x < 16) (w : World) :
    Calls Tryz.prog 104 #[.string s, .int .i64 16, .int .i64 32] w fun e w' => e = .returned (.tuple #[.int .u64 (valI 16 (bytesOf s)), .nilIface]) ∧ Below w.heap.size w w' := by
  have HB := Aside0.mk (Below.refl w.heap.size w)
  obtain ⟨xs, hxs⟩ : ∃ xs, xs = bytesOf s := ⟨_, rfl⟩
  have hlen : xs.length = s.size := by rw [hxs, bytesOf_length]
  rw [← hxs] at hd ⊢
  have HXS := Aside0.mk hxs
  have HD := Aside0.mk hd
  have he : s.toList.isEmpty = false := by
    cases hl : s.toList with
    | nil =>
      rw [ByteArray.toList_eq] at hl
      have : s.data.toList.length = 0 := by rw [hl]; rfl
      rw [data_length] at this
      omega
    | cons _ _ => rfl
  have hl4 : xs.length ≤ 4 := by omega
  clear hxs hd hlen
  go_enter Tryz.func104, Tryz.ntmps104
  go_wp2_with ((with_reducible refine gate_dst (N := 99) rfl ?_); refine conv_event (src := 9) (dst := 51) (e := 5) (s := s) (w := w) rfl (N := 99) rfl Tryz.underlying9 Tryz.underlying51 Tryz.underlying5 ?cvr (by omega) HB.out ?_; (case cvr => intro kb_; first | (go_simp; done) | (go_simp; rfl)); intro A c w1 hrow hc hb; have HROW := Aside0.mk hrow; have HB2 := Aside0.mk hb; clear hrow hc hb)
  rw [← HXS.out] at HROW ⊢
  go_loopw [12, 13, 101] (fun u n i wr => u = .bool false ∧ ∃ k : Nat, k ≤ xs.length ∧ i = .int .i64 k ∧ n = .int .u64 (valI 16 (xs.take k)) ∧ Aside0 (Kd.C (Kd.int .u8) wr A xs.length xs) ∧ Aside0 (Below w.heap.size w wr)) (fun _ _ i _ => xs.length - (RowKit.intOf i).toNat)
  case atStart => exact ⟨rfl, 0, Nat.zero_le _, rfl, rfl, HROW, HB2⟩
  case round =>
    clear HROW HB2 HB
    obtain ⟨rfl, k, hk, rfl, rfl, HR, HB⟩ := hrel
    by_cases hlt : k < xs.length
    · have HT := Aside0.mk (take_rd hlt)
      have hx : xs.getD k 0 ∈ xs := by rw [List.getD_eq_getElem?_getD, List.getElem?_eq_getElem hlt]; exact List.getElem_mem hlt
      have hdx := HD.out _ hx
      have hc := digI_cases hdx (by omega)
      have hv := valI_bound (B := 16) (by omega) (by omega) (xs.take k) (fun x hx => HD.out x (List.mem_of_mem_take hx))
      have hv1 := hv.2.1 (by rw [List.length_take]; omega)
      have hv0 := hv.1
      clear hv
      obtain ⟨ad, had, hcell⟩ := Kd.at_int HR.out (k : Int) (by omega) (by omega)
      subst had
      rw [show rd xs (k : Int) = xs.getD k 0 by unfold rd; rw [Int.toNat_natCast], Int.toNat_natCast] at hcell
      have hs := valI_snoc 16 (xs.take k) (xs.getD k 0)
      rw [← HT.out] at hs
      have HS := Aside0.mk hs
      clear hs hx
      generalize xs.getD k 0 = x at hdx hc hcell HS HT
      generalize valI 16 (xs.take k) = v at hv0 hv1 HS ⊢
      clear HT
      rcases hc with ⟨a1, a2, a3⟩ | ⟨a1, a2, a3⟩ | ⟨a1, a2, a3⟩
      · rw [a3] at HS
        clear hdx a3
        go_wp2
        go_roundw
        case rel => exact ⟨rfl, k + 1, by omega, by go_num, by rw [HS.out], HR, HB⟩
        case measure => simp [RowKit.intOf]; omega
      · rw [a3] at HS
        clear hdx a3
        have HLW := Aside0.mk (low_small a1 a2)
        go_wp2_with (go_at_call 120; (with_reducible refine (lower_ x x HLW.out _).mono ?_); rintro e w' ⟨rfl, rfl⟩)
        go_roundw
        case rel => exact ⟨rfl, k + 1, by omega, by go_num, by rw [HS.out, show x - 87 = x - 97 + 10 by omega], HR, HB⟩
        case measure => simp [RowKit.intOf]; omega
      · rw [a3] at HS
        clear hdx a3
        have HLW := Aside0.mk (low_great a1 a2)
        go_wp2_with (go_at_call 120; (with_reducible refine (lower_ x (x + 32) HLW.out _).mono ?_); rintro e w' ⟨rfl, rfl⟩)
        go_roundw
        case rel => exact ⟨rfl, k + 1, by omega, by go_num, by rw [HS.out]; go_num, HR, HB⟩
        case measure => simp [RowKit.intOf]; omega
    · have hk' : k = xs.length := by omega
      subst hk'
      go_wp2
      go_ret2
      exact ⟨by first | rfl | (rw [List.take_length]; rfl), HB.out⟩
theorem pub10 (s : ByteArray) (h0 : 1 ≤ s.size) (h4 : s.size ≤ 4) (hd : ∀ x ∈ bytesOf s, digI x < 10) (w : World) :
    Calls Tryz.prog 87 #[.string s, .int .i64 10, .int .i64 32] w fun e w' => e = .returned (.tuple #[.int .u64 (valI 10 (bytesOf s)), .nilIface]) ∧ Below w.heap.size w w' := by
  have HC := Aside0.mk (fun W => parse10 s h0 h4 hd W)
  clear hd
  go_enter Tryz.func87, Tryz.ntmps87
  go_wp2_with (go_at_call 104; (with_reducible refine (HC.out _).mono ?_); rintro e w' ⟨rfl, hb⟩)
  go_ret2
  exact ⟨rfl, hb⟩
theorem pub16 (s : ByteArray) (h0 : 1 ≤ s.size) (h4 : s.size ≤ 4) (hd : ∀ x ∈ bytesOf s, digI x < 16) (w : World) :
    Calls Tryz.prog 87 #[.string s, .int .i64 16, .int .i64 32] w fun e w' => e = .returned (.tuple #[.int .u64 (valI 16 (bytesOf s)), .nilIface]) ∧ Below w.heap.size w w' := by
  have HC := Aside0.mk (fun W => parse16 s h0 h4 hd W)
  clear hd
  go_enter Tryz.func87, Tryz.ntmps87
  go_wp2_with (go_at_call 104; (with_reducible refine (HC.out _).mono ?_); rintro e w' ⟨rfl, hb⟩)
  go_ret2
  exact ⟨rfl, hb⟩
end Go.Proofs.YtbalmnkbodcigaaGreatDoor.AddrLib
