/- What addr.number comes to at ASCII strings of at most four octets, to base 10 or 16: the value of its digits; false, if one is none. -/
import Derived.Test.YtbalmnkbodcigaaGreatDoorAddrParse
namespace Go.Proofs.YtbalmnkbodcigaaGreatDoor.AddrLib
open Go.Shelf Go.RowKit Go.Lib Go.Proofs.YtbalmnkbodcigaaGreatDoorW.PrintWords Go.Proofs.YtbalmnkbodcigaaGreatDoorW.PrintLast Go.Proofs.YtbalmnkbodcigaaGreatDoorW.PrintMore

theorem pub_ (B : Int) (hB : B = 10 ∨ B = 16) (s : ByteArray) (h0 : 1 ≤ s.size) (h4 : s.size ≤ 4) (hd : ∀ x ∈ bytesOf s, digI x < B) (w : World) :
    Calls Tryz.prog 87 #[.string s, .int .i64 B, .int .i64 32] w fun e w' => e = .returned (.tuple #[.int .u64 (valI B (bytesOf s)), .nilIface]) ∧ Below w.heap.size w w' := by
  rcases hB with rfl | rfl
  · exact pub10 s h0 h4 hd w
  · exact pub16 s h0 h4 hd w
def ascii (s : ByteArray) : Bool := s.data.toList.all fun b => decide (b.toNat < 128)
def digs : ByteArray := ⟨#[48, 49, 50, 51, 52, 53, 54, 55, 56, 57, 97, 98, 99, 100, 101, 102]⟩
def lowS (s : ByteArray) : ByteArray := ⟨(Lib.toLowerA s.data.toList).toArray⟩
theorem toLower_ (s : ByteArray) (h : s.size ≤ 1000) (ha : ascii s = true) (w : World) : Calls Tryz.prog 85 #[.string s] w fun e w' => e = .returned (.string (lowS s)) ∧ Below w.heap.size w w' :=
  Tryz.strings_ToLower_ascii s w (by omega) (fun _ b hb => of_decide_eq_true (List.all_eq_true.1 ha b (List.mem_of_getElem? hb)))
theorem lowS_len (s : ByteArray) : (bytesOf (lowS s)).length = (bytesOf s).length := by
  unfold bytesOf lowS Lib.toLowerA
  simp
theorem dig_find10 : ∀ c : Fin 128, decide (0 ≤ Lib.indexByte ((digs.extract 0 10).data.toList) (Lib.lowerB (UInt8.ofNat c.val))) = decide (digI (c.val : Int) < 10) := by decide +kernel
theorem dig_find16 : ∀ c : Fin 128, decide (0 ≤ Lib.indexByte ((digs.extract 0 16).data.toList) (Lib.lowerB (UInt8.ofNat c.val))) = decide (digI (c.val : Int) < 16) := by decide +kernel
theorem low_get (s : ByteArray) (k : Nat) (h : k < (bytesOf s).length) (ha : ascii s = true) : ∃ c : Fin 128, (bytesOf s).getD k 0 = (c.val : Int) ∧ ((bytesOf (lowS s)).getD k 0).toNat.toUInt8 = Lib.lowerB (UInt8.ofNat c.val) := by
  rw [bytesOf_length] at h
  have hl : k < s.data.toList.length := by rw [data_length]; exact h
  have hb : (s.data.toList[k]).toNat < 128 := of_decide_eq_true (List.all_eq_true.1 ha _ (List.getElem_mem hl))
  refine ⟨⟨(s.data.toList[k]).toNat, hb⟩, ?_, ?_⟩
  · unfold bytesOf
    rw [List.getD_eq_getElem?_getD, List.getElem?_map, List.getElem?_eq_getElem hl]
    rfl
  · unfold bytesOf lowS Lib.toLowerA
    rw [List.getD_eq_getElem?_getD, List.getElem?_map]
    simp only [List.getElem?_map, List.getElem?_eq_getElem hl, Option.map_some, Option.getD_some]
    simp
theorem find_ (B : Int) (hB : B = 10 ∨ B = 16) (s : ByteArray) (k : Nat) (h : k < (bytesOf s).length) (ha : ascii s = true) : decide (0 ≤ Lib.indexByte ((digs.extract 0 B.toNat).data.toList) ((bytesOf (lowS s)).getD k 0).toNat.toUInt8) = decide (digI ((bytesOf s).getD k 0) < B) := by
  obtain ⟨c, h1, h2⟩ := low_get s k h ha
  rw [h1, h2]
  rcases hB with rfl | rfl
  · exact dig_find10 c
  · exact dig_find16 c
set_option maxHeartbeats 4000000 in
set_option maxRecDepth 100000 in
theorem number_ (B most : Int) (hB : B = 10 ∨ B = 16) (s : ByteArray) (h0 : 1 ≤ s.size) (h4 : s.size ≤ 4) (hm : (s.size : Int) ≤ most) (ha : ascii s = true) (r : Int × Bool)
    (hr : r = if (∀ x ∈ bytesOf s, digI x < B) then (valI B (bytesOf s), true) else (0, false)) (w : World) :
    Calls Tryz.prog 67 #[.string s, .int .i64 most, .int .i64 B] w fun e w' => e = .returned (.tuple #[.int .i64 r.1, .bool r.2]) ∧ Below w.heap.size w w' := by
  have HB0 := Aside0.mk (Below.refl w.heap.size w)
  have he : s.toList.isEmpty = false := by
    cases hl : s.toList with
    | nil =>
      rw [ByteArray.toList_eq] at hl
      have : s.data.toList.length = 0 := by rw [hl]; rfl
      rw [data_length] at this
      omega
    | cons _ _ => rfl
  have hb1 : 10 ≤ B := by omega
  have hb2 : B ≤ 16 := by omega
  have HF := Aside0.mk (fun k h => find_ B hB s k h ha)
  have HP := Aside0.mk (fun hd W => pub_ B hB s h0 h4 hd W)
  have HTL := Aside0.mk (fun W => toLower_ s (by omega) ha W)
  have HLL := Aside0.mk (lowS_len s)
  have HLS := Aside0.mk (bytesOf_length s)
  have HR := Aside0.mk hr
  clear hr ha hB
  obtain ⟨t, ht⟩ : ∃ t, t = lowS s := ⟨_, rfl⟩
  rw [← ht] at HTL HF HLL
  have hts : t.size ≤ 4 := by rw [← bytesOf_length, HLL.out, HLS.out]; exact h4
  clear ht
  obtain ⟨ys, hys⟩ : ∃ ys, ys = bytesOf t := ⟨_, rfl⟩
  rw [← hys] at HF HLL
  have hyl : ys.length ≤ 4 := by rw [HLL.out, HLS.out]; exact h4
  have HYS := Aside0.mk hys
  clear hys
  have hmd : decide (most < (s.size : Int)) = false := decide_eq_false (by omega)
  go_enter Tryz.func67, Tryz.ntmps67
  go_wp2_with (first
    | (go_at_call 85; (with_reducible refine (HTL.out _).mono ?_); rintro e w' ⟨rfl, hb⟩; have HB := Aside0.mk hb; clear hb)
    | ((with_reducible refine gate_dst (N := 23) rfl ?_); refine conv_event (src := 9) (dst := 51) (e := 5) (s := t) (w := w) rfl (N := 23) rfl Tryz.underlying9 Tryz.underlying51 Tryz.underlying5 ?cvr (by omega) HB.out ?_; (case cvr => intro kb_; first | (go_simp; done) | (go_simp; rfl)); intro A c w1 hrow hc hb; have HROW := Aside0.mk hrow; have HB2 := Aside0.mk hb; clear hrow hc hb))
  rw [← HYS.out] at HROW ⊢
  go_loopw [25] (fun i wr => ∃ k : Nat, k ≤ ys.length ∧ i = .int .i64 k ∧ Aside0 (∀ j, j < k → digI ((bytesOf s).getD j 0) < B) ∧ Aside0 (Kd.C (Kd.int .u8) wr A ys.length ys) ∧ Aside0 (Below w.heap.size w wr)) (fun i _ => ys.length - (RowKit.intOf i).toNat)
  case atStart => exact ⟨0, Nat.zero_le _, rfl, ⟨fun j h => absurd h (Nat.not_lt_zero j)⟩, HROW, HB2⟩
  case round =>
    clear HROW HB2 HB HB0
    obtain ⟨k, hk, rfl, HJ, HC, HB⟩ := hrel
    by_cases hlt : k < ys.length
    · have hf := HF.out k (by rw [← HLL.out]; exact hlt)
      obtain ⟨ad, had, hcell⟩ := Kd.at_int HC.out (k : Int) (by omega) (by omega)
      subst had
      rw [show rd ys (k : Int) = ys.getD k 0 by unfold rd; rw [Int.toNat_natCast], Int.toNat_natCast] at hcell
      obtain ⟨y, hy⟩ : ∃ y, y = ys.getD k 0 := ⟨_, rfl⟩
      obtain ⟨q, hq⟩ : ∃ q, q = Lib.indexByte ((digs.extract 0 B.toNat).data.toList) y.toNat.toUInt8 := ⟨_, rfl⟩
      rw [← hy] at hcell hf
      rw [← hq] at hf
      have HI := Aside0.mk (show ∀ W, Calls Tryz.prog 86 #[.string ((⟨#[48, 49, 50, 51, 52, 53, 54, 55, 56, 57, 97, 98, 99, 100, 101, 102]⟩ : ByteArray).extract 0 B.toNat), .int .u8 y] W fun e w' => e = .returned (.int .i64 q) ∧ W = w' from fun W => by
        rw [hq]
        refine (Tryz.strings_IndexByte _ y W).mono ?_
        rintro e w' ⟨rfl, rfl⟩
        exact ⟨rfl, rfl⟩)
      clear hq hy
      have c1 : (0 : Int) ≤ B := by omega
      by_cases hd : digI ((bytesOf s).getD k 0) < B
      · rw [decide_eq_true hd] at hf
        have hq0 : 0 ≤ q := of_decide_eq_true hf
        have HJ2 := Aside0.mk (show ∀ j, j < k + 1 → digI ((bytesOf s).getD j 0) < B from fun j hj => by
          by_cases e : j = k
          · rw [e]; exact hd
          · exact HJ.out j (by omega))
        clear hf hd HJ
        go_wp2_with (go_at_call 86; (with_reducible refine (HI.out _).mono ?_); rintro e w' ⟨rfl, rfl⟩)
        go_roundw
        case rel => exact ⟨k + 1, by omega, by go_num, HJ2, HC, HB⟩
        case measure => simp [RowKit.intOf]; omega
      · rw [decide_eq_false hd] at hf
        have hq0 : q < 0 := by have := of_decide_eq_false hf; omega
        have HN := Aside0.mk (show r = (0, false) by
          rw [HR.out, if_neg]
          intro hall
          refine hd (hall _ ?_)
          have hk2 : k < (bytesOf s).length := by rw [← HLL.out]; exact hlt
          rw [List.getD_eq_getElem?_getD, List.getElem?_eq_getElem hk2]
          exact List.getElem_mem hk2)
        clear hf hd HJ
        go_wp2_with (go_at_call 86; (with_reducible refine (HI.out _).mono ?_); rintro e w' ⟨rfl, rfl⟩)
        go_ret2
        exact ⟨by rw [HN.out]; rfl, HB.out⟩
    · have hk' : k = ys.length := by omega
      subst hk'
      have hall : ∀ x ∈ bytesOf s, digI x < B := by
        intro x hx
        obtain ⟨j, hj, rfl⟩ := List.getElem_of_mem hx
        have := HJ.out j (by rw [HLL.out]; exact hj)
        rw [List.getD_eq_getElem?_getD, List.getElem?_eq_getElem hj] at this
        exact this
      have HPP := Aside0.mk (HP.out hall)
      have HN := Aside0.mk (show r = (valI B (bytesOf s), true) by rw [HR.out, if_pos hall])
      have hvb := valI_bound (B := B) (by omega) hb2 (bytesOf s) hall
      have hv0 := hvb.1
      have hv1 := hvb.2.2 (by rw [HLS.out]; exact h4)
      clear hvb hall HJ
      generalize valI B (bytesOf s) = v at HPP HN hv0 hv1
      go_wp2_with (go_at_call 87; (with_reducible refine (HPP.out _).mono ?_); rintro e w' ⟨rfl, hb⟩; have HB3 := Aside0.mk hb; clear hb)
      go_quiet (fail)
      go_wp2
      go_ret2
      exact ⟨by rw [HN.out]; rfl, below_step HB.out (pw_below_drewN HB3.out _)⟩
end Go.Proofs.YtbalmnkbodcigaaGreatDoor.AddrLib
