/- What addresses' texts ask of the library's variables, whatever octets a text has: beside AddrWorld's, the tables of unicode.ToLower and of the decoding of runes. It stays so behind any call that leaves what was there. -/
import Derived.Test.YtbalmnkbodcigaaGreatDoorAddrNumber
import Derived.Test.YtbalmnkbodcigaaGreatDoorToLow
import Derived.Shelf.Unicode.PredsPay
set_option linter.unusedSimpArgs false
set_option linter.unusedVariables false
namespace Go.Proofs.YtbalmnkbodcigaaGreatDoor.AddrLib
open Go.Shelf Go.RowKit Go.Lib Go.Proofs.YtbalmnkbodcigaaGreatDoorW.PrintWords Go.Proofs.YtbalmnkbodcigaaGreatDoorW.PrintLast Go.Proofs.YtbalmnkbodcigaaGreatDoorW.PrintMore

structure G (w : World) : Prop where
  m : ∃ m, w.cell? ⟨0, 0, none⟩ = some (.int .i64 m)
  pow : Lib.TabIs Tryz.prog w "internal/strconv.uint64pow10" .u64 Lib.pow10Tab
  tz : w.cell? ⟨6, 15, none⟩ = some (.int .u8 4)
  cv : CaseVar 2 caseA w
  u8 : Lib.Utf8Tabs 7 8 w
theorem pow_named : Tryz.prog.globalNamed "internal/strconv.uint64pow10" = some 1 := by kernel_rfl
theorem G.below {w w' : World} (h : G w) (hb : Below w.heap.size w w') : G w' :=
  ⟨let ⟨m, hm⟩ := h.m; ⟨m, cell_below hb hm⟩, TabIs_below pow_named h.pow hb, cell_below hb h.tz, CaseVar_below h.cv hb, Utf8Tabs_below h.u8 hb⟩
theorem G.drew {w w' : World} (h : G w) (hb : Drawn0 w w') : G w' := by
  obtain ⟨⟨n, rfl⟩⟩ := hb
  exact h.below (pw_below_drewN (Below.refl _ _) n)
theorem toLower_any (s : ByteArray) (h : s.size ≤ 1000) (w : World) (hg : G w) : Calls Tryz.prog 85 #[.string s] w fun e w' => e = .returned (.string ⟨(Lib.toLowerD s.data.toList).toArray⟩) ∧ Below w.heap.size w w' :=
  Tryz.strings_ToLower_any s w (by omega) hg.cv hg.u8
theorem noDig_find : ∀ c : Fin 256, (128 ≤ c.val ∨ c.val = 105 ∨ c.val = 107) → Lib.indexByte ((digs.extract 0 10).data.toList) (UInt8.ofNat c.val) < 0 ∧ Lib.indexByte ((digs.extract 0 16).data.toList) (UInt8.ofNat c.val) < 0 := by decide +kernel
theorem noDig_at (B : Int) (hB : B = 10 ∨ B = 16) (c : UInt8) (h : noDig c) : Lib.indexByte ((digs.extract 0 B.toNat).data.toList) c < 0 := by
  have := noDig_find ⟨c.toNat, c.toNat_lt⟩ h
  rw [show UInt8.ofNat (⟨c.toNat, c.toNat_lt⟩ : Fin 256).val = c from by simp] at this
  rcases hB with rfl | rfl
  · exact this.1
  · exact this.2
set_option maxHeartbeats 4000000 in
set_option maxRecDepth 100000 in
/-- A text with an octet from 128 on is no number. -/
theorem number_bad (B most : Int) (hB : B = 10 ∨ B = 16) (s : ByteArray) (h0 : 1 ≤ s.size) (h4 : s.size ≤ 4) (hm : (s.size : Int) ≤ most) (ha : ¬ ascii s = true) (w : World) (hg : G w) :
    Calls Tryz.prog 67 #[.string s, .int .i64 most, .int .i64 B] w fun e w' => e = .returned (.tuple #[.int .i64 0, .bool false]) ∧ Below w.heap.size w w' := by
  have HB0 := Aside0.mk (Below.refl w.heap.size w)
  have HG := Aside0.mk hg
  have he : s.toList.isEmpty = false := by
    cases hl : s.toList with
    | nil =>
      rw [ByteArray.toList_eq] at hl
      have : s.data.toList.length = 0 := by rw [hl]; rfl
      rw [data_length] at this
      omega
    | cons _ _ => rfl
  have hb1 : 10 ≤ B := by omega
  have hb2 : B ≤ 16 := by omega
  have hhas : ∃ b ∈ s.data.toList, 128 ≤ b.toNat := by
    apply Classical.byContradiction
    intro hn
    apply ha
    unfold ascii
    rw [List.all_eq_true]
    intro b hb
    exact decide_eq_true (Classical.byContradiction fun h => hn ⟨b, hb, by omega⟩)
  obtain ⟨c0, hc0, hd0⟩ := low_has s.data.toList hhas
  have hneg := noDig_at B hB c0 hd0
  have HTL := Aside0.mk (fun W hW => toLower_any s (by omega) W hW)
  obtain ⟨t, ht⟩ : ∃ t : ByteArray, t = ⟨(Lib.toLowerD s.data.toList).toArray⟩ := ⟨_, rfl⟩
  rw [← ht] at HTL
  have hmem : ∃ j : Nat, j < (bytesOf t).length ∧ Lib.indexByte ((digs.extract 0 B.toNat).data.toList) ((bytesOf t).getD j 0).toNat.toUInt8 < 0 := by
    obtain ⟨j, hj, hjc⟩ := List.getElem_of_mem hc0
    refine ⟨j, by rw [ht, bytesOf_length]; show j < (Lib.toLowerD s.data.toList).toArray.size; simpa using hj, ?_⟩
    have e : ((bytesOf t).getD j 0).toNat.toUInt8 = c0 := by
      rw [ht]
      unfold bytesOf
      rw [List.getD_eq_getElem?_getD, List.getElem?_map]
      simp [hj, hjc]
    rw [e]
    exact hneg
  have hts : t.size ≤ 16 := by
    rw [ht]
    show (Lib.toLowerD s.data.toList).toArray.size ≤ _
    have := lowD_len s.data.toList
    rw [data_length] at this
    rw [List.size_toArray]
    omega
  clear ht hneg hd0 hc0 hhas ha hB hg
  obtain ⟨ys, hys⟩ : ∃ ys, ys = bytesOf t := ⟨_, rfl⟩
  rw [← hys] at hmem
  have hyl : ys.length ≤ 16 := by rw [hys, bytesOf_length]; exact hts
  have HYS := Aside0.mk hys
  have HM := Aside0.mk hmem
  clear hys hmem
  have hmd : decide (most < (s.size : Int)) = false := decide_eq_false (by omega)
  go_enter Tryz.func67, Tryz.ntmps67
  go_wp2_with (first
    | (go_at_call 85; (with_reducible refine (HTL.out _ HG.out).mono ?_); rintro e w' ⟨rfl, hb⟩; have HB := Aside0.mk hb; clear hb)
    | ((with_reducible refine gate_dst (N := 23) rfl ?_); refine conv_event (src := 9) (dst := 51) (e := 5) (s := t) (w := w) rfl (N := 23) rfl Tryz.underlying9 Tryz.underlying51 Tryz.underlying5 ?cvr (by omega) HB.out ?_; (case cvr => intro kb_; first | (go_simp; done) | (go_simp; rfl)); intro A c w1 hrow hc hb; have HROW := Aside0.mk hrow; have HB2 := Aside0.mk hb; clear hrow hc hb))
  rw [← HYS.out] at HROW ⊢
  go_loopw [25] (fun i wr => ∃ k : Nat, k ≤ ys.length ∧ i = .int .i64 k ∧ Aside0 (∀ j, j < k → 0 ≤ Lib.indexByte ((digs.extract 0 B.toNat).data.toList) (ys.getD j 0).toNat.toUInt8) ∧ Aside0 (Kd.C (Kd.int .u8) wr A ys.length ys) ∧ Aside0 (Below w.heap.size w wr)) (fun i _ => ys.length - (RowKit.intOf i).toNat)
  case atStart => exact ⟨0, Nat.zero_le _, rfl, ⟨fun j h => absurd h (Nat.not_lt_zero j)⟩, HROW, HB2⟩
  case round =>
    clear HROW HB2 HB HB0
    obtain ⟨k, hk, rfl, HJ, HC, HB⟩ := hrel
    by_cases hlt : k < ys.length
    · obtain ⟨ad, had, hcell⟩ := Kd.at_int HC.out (k : Int) (by omega) (by omega)
      subst had
      rw [show rd ys (k : Int) = ys.getD k 0 by unfold rd; rw [Int.toNat_natCast], Int.toNat_natCast] at hcell
      obtain ⟨y, hy⟩ : ∃ y, y = ys.getD k 0 := ⟨_, rfl⟩
      obtain ⟨q, hq⟩ : ∃ q, q = Lib.indexByte ((digs.extract 0 B.toNat).data.toList) y.toNat.toUInt8 := ⟨_, rfl⟩
      rw [← hy] at hcell
      have HI := Aside0.mk (show ∀ W, Calls Tryz.prog 86 #[.string ((⟨#[48, 49, 50, 51, 52, 53, 54, 55, 56, 57, 97, 98, 99, 100, 101, 102]⟩ : ByteArray).extract 0 B.toNat), .int .u8 y] W fun e w' => e = .returned (.int .i64 q) ∧ W = w' from fun W => by
        rw [hq]
        refine (Tryz.strings_IndexByte _ y W).mono ?_
        rintro e w' ⟨rfl, rfl⟩
        exact ⟨rfl, rfl⟩)
      have c1 : (0 : Int) ≤ B := by omega
      by_cases hd : 0 ≤ q
      · have HJ2 := Aside0.mk (show ∀ j, j < k + 1 → 0 ≤ Lib.indexByte ((digs.extract 0 B.toNat).data.toList) (ys.getD j 0).toNat.toUInt8 from fun j hj => by
          by_cases e : j = k
          · rw [e, ← hy, ← hq]; exact hd
          · exact HJ.out j (by omega))
        clear hq hy HJ
        go_wp2_with (go_at_call 86; (with_reducible refine (HI.out _).mono ?_); rintro e w' ⟨rfl, rfl⟩)
        go_roundw
        case rel => exact ⟨k + 1, by omega, by go_num, HJ2, HC, HB⟩
        case measure => simp [RowKit.intOf]; omega
      · have hq0 : q < 0 := by omega
        clear hq hy HJ hd
        go_wp2_with (go_at_call 86; (with_reducible refine (HI.out _).mono ?_); rintro e w' ⟨rfl, rfl⟩)
        go_ret2
        exact ⟨rfl, HB.out⟩
    · exfalso
      obtain ⟨j, hj, hn⟩ := HM.out
      have := HJ.out j (by omega)
      omega
end Go.Proofs.YtbalmnkbodcigaaGreatDoor.AddrLib
