/- The walk of the law AddrCanon: a text's octets are copied, the letters a to f made great; what is read of both. -/
import Derived.Test.YtilobbjnmnnmnaaDoorOCnx3
import Derived.Lib.ConvBytes
set_option linter.unusedSimpArgs false
set_option linter.unusedVariables false
namespace Go.Proofs.YtilobbjnmnnmnaaDoor.AddrLib
open Go.RowKit Go.Lib Go.Proofs.YtilobbjnmnnmnaaDoor.OCn Go.Proofs.YtilobbjnmnnmnaaDoorW.PrintWords Go.Proofs.YtilobbjnmnnmnaaDoorW.PrintLast Go.Proofs.YtilobbjnmnnmnaaDoorW.PrintMore

section
open Go.Shelf
attribute [local go_sem] Oper.semAt_some
/-- A row of octets of the call's own, in its block; what the block holds beyond it. -/
def BRow (W : World) (g : Nat) (xs : List Int) (ts : List Value) : Prop := W.heap[g]? = some (.cells (xs.map (Value.int .u8) ++ ts).toArray 5 (xs.length + ts.length, xs.length + ts.length + 1))
theorem BRow.cell {W : World} {g : Nat} {xs : List Int} {ts : List Value} (h : BRow W g xs ts) (i : Nat) (hi : i < xs.length) : W.cell? ⟨g, i, none⟩ = some (.int .u8 (xs.getD i 0)) := by
  unfold BRow at h
  unfold World.cell?
  rw [h]
  simp [List.getD_eq_getElem?_getD, hi, List.getElem?_append]
theorem BRow.free {W : World} {g : Nat} {xs : List Int} {ts : List Value} (h : BRow W g xs ts) (i : Nat) (hi : i < xs.length) : W.frozen? ⟨g, i, none⟩ = false := by
  unfold BRow at h
  unfold World.frozen?
  rw [h]
  simp
  omega
theorem BRow.set {W : World} {g : Nat} {xs : List Int} {ts : List Value} (h : BRow W g xs ts) (i : Nat) (hi : i < xs.length) (x : Int) : BRow (W.setCell ⟨g, i, none⟩ (.int .u8 x)) g (xs.set i x) ts := by
  unfold BRow at h ⊢
  simp [World.setCell, Array.getElem?_modify, h, List.map_set, List.set_append, hi]
theorem BRow.below {W W' : World} {g : Nat} {xs : List Int} {ts : List Value} (h : BRow W g xs ts) (hb : Below W.heap.size W W') : BRow W' g xs ts := (hb.block g (blk_lt h)).trans h
theorem BRow.reads {W : World} {g : Nat} {xs : List Int} {ts : List Value} (h : BRow W g xs ts) (hl : xs.length ≤ 9223372036854775807) : ReadsInt W .u8 (some ⟨g, 0, none⟩) xs.length xs := by
  refine ⟨rfl, hl, fun _ => ⟨_, rfl, fun j hj => ?_⟩⟩
  have e : (⟨g, 0, none⟩ : Addr).add j = ⟨g, j, none⟩ := by
    simp only [Addr.add, Nat.zero_add]
    split
    · rename_i h; rw [h]
    · rfl
  rw [e]
  exact h.cell j hj
theorem bytes_row (w : World) (s : ByteArray) : ∃ ts, BRow (bytesWorld w 5 s) w.heap.size (bytesOf s) ts := by
  refine ⟨List.replicate (grownCap w s.size 0 5 - s.size) (Value.int .u8 0), ?_⟩
  unfold BRow
  rw [bytesWorld_at_new]
  have e : bytesCells w 5 s = ((bytesOf s).map (Value.int .u8) ++ List.replicate (grownCap w s.size 0 5 - s.size) (Value.int .u8 0)).toArray := by
    unfold bytesCells bytesOf
    apply Array.ext'
    simp
  rw [e]
  simp [bytesOf_length]
/-- A cell of the call's own block that is written leaves the listed variables: they lie below. -/
theorem G.set_own {w0 W : World} (h : AddrLib.G w0) (hb : Below w0.heap.size w0 W) {g : Nat} (hg : w0.heap.size ≤ g) (i : Nat) (v : Value) : AddrLib.G (W.setCell ⟨g, i, none⟩ v) := h.below (hb.setCell hg v)
def grI (c : Int) : Int := if 97 ≤ c ∧ c ≤ 102 then c - 32 else c
def grP (xs : List Int) (n : Nat) : List Int := (xs.take n).map grI ++ xs.drop n
theorem grP_len (xs : List Int) (n : Nat) : (grP xs n).length = xs.length := by
  unfold grP
  rw [List.length_append, List.length_map, List.length_take, List.length_drop]
  omega
theorem grP_at (xs : List Int) (n : Nat) (h : n < xs.length) : (grP xs n).getD n 0 = xs.getD n 0 := by
  unfold grP
  rw [List.getD_eq_getElem?_getD, List.getD_eq_getElem?_getD, List.getElem?_append_right (by rw [List.length_map, List.length_take]; omega), List.length_map, List.length_take, List.getElem?_drop]
  congr 2
  omega
theorem grP_set (xs : List Int) (n : Nat) (h : n < xs.length) : (grP xs n).set n (grI (xs.getD n 0)) = grP xs (n + 1) := by
  unfold grP
  have hl : ((xs.take n).map grI).length = n := by rw [List.length_map, List.length_take]; omega
  rw [List.set_append_right _ _ (by omega), hl, Nat.sub_self, List.drop_eq_getElem_cons h, List.set_cons_zero, List.take_succ_eq_append_getElem h, List.map_append, List.getD_eq_getElem?_getD, List.getElem?_eq_getElem h]
  simp
theorem grP_same (xs : List Int) (n : Nat) (h : n < xs.length) (hs : grI (xs.getD n 0) = xs.getD n 0) : grP xs n = grP xs (n + 1) := by
  rw [← grP_set xs n h, hs, ← grP_at xs n h]
  have hl : n < (grP xs n).length := by rw [grP_len]; exact h
  rw [List.getD_eq_getElem?_getD, List.getElem?_eq_getElem hl]
  simp
theorem grP_all (xs : List Int) : grP xs xs.length = xs.map grI := by unfold grP; simp
set_option maxRecDepth 100000 in
set_option maxHeartbeats 4000000 in
/-- A text that is too long. -/
theorem canon_long (k : Nat) (s : ByteArray) (hs : 100 < s.size) (w : World) (hG : G w) (h0 : nameplatelaw04_lives.f k = some true) :
    Calls Tryd.prog 4 #[.string s] w fun e w' => e = .returned (.bool true) ∧ Below w.heap.size w w' := by
  have H0 := Aside0.mk (fun W hg => nameplatelaw04_lives.calls k true W ⟨hg⟩ h0)
  have HG := Aside0.mk hG
  clear h0 hG
  have d1 : decide (100 < (s.size : Int)) = true := decide_eq_true (by omega)
  go_enter Tryd.func4, Tryd.ntmps4
  go_wp2_with (go_at_call 13; (with_reducible refine (H0.out _ HG.out).mono ?_); rintro e w1 ⟨rfl, hb1⟩; have HB1 := Aside0.mk hb1; clear hb1)
  go_ret
  exact ⟨rfl, HB1.out⟩
set_option maxRecDepth 100000 in
set_option maxHeartbeats 4000000 in
/-- A text that is none. -/
theorem canon_none (k : Nat) (s : ByteArray) (hs : s.size ≤ 100) (w : World) (hG : G w) (h0 : nameplatelaw04_lives.f k = some true) (h1 : addr_Read.f k s = some (false, 0, 0, 7)) :
    Calls Tryd.prog 4 #[.string s] w fun e w' => e = .returned (.bool true) ∧ Below w.heap.size w w' := by
  have H0 := Aside0.mk (fun W hg => nameplatelaw04_lives.calls k true W ⟨hg⟩ h0)
  have H1 := Aside0.mk (fun W hg => addr_Read.calls k _ _ _ _ _ W ⟨hg⟩ h1)
  have HG := Aside0.mk hG
  clear h0 h1 hG
  have d1 : decide (100 < (s.size : Int)) = false := decide_eq_false (by omega)
  go_enter Tryd.func4, Tryd.ntmps4
  go_wp2_with (first
    | (go_at_call 13; (with_reducible refine (H0.out _ HG.out).mono ?_); rintro e w1 ⟨rfl, hb1⟩; have HB1 := Aside0.mk hb1; clear hb1)
    | (go_at_call 14; (with_reducible refine (H1.out _ (HG.out.below HB1.out)).mono ?_); rintro e w2 ⟨rfl, hb2⟩; have HB2 := Aside0.mk (HB1.out.trans (hb2.mono HB1.out.size)); clear hb2))
  go_ret
  exact ⟨rfl, below_alloc HB2.out _⟩
set_option maxRecDepth 100000 in
set_option maxHeartbeats 4000000 in
/-- A text that is read. -/
theorem canon_read (k : Nat) (s gs t : ByteArray) (hgs : strOfNums ((bytesOf s).map grI) = gs) (hs : s.size ≤ 100) (six : Bool) (hi lo : Int) (w : World) (hG : G w) (h0 : nameplatelaw04_lives.f k = some true)
    (h1 : addr_Read.f k s = some (six, hi, lo, 0)) (h2 : addr_Text.f k six hi lo = some (t, 0)) (h3 : addr_Read.f k t = some (six, hi, lo, 0)) (h4 : addr_Read.f k gs = some (six, hi, lo, 0)) (h5 : t.size ≤ 39) :
    Calls Tryd.prog 4 #[.string s] w fun e w' => e = .returned (.bool true) ∧ Below w.heap.size w w' := by
  have H0 := Aside0.mk (fun W hg => nameplatelaw04_lives.calls k true W ⟨hg⟩ h0)
  have H1 := Aside0.mk (fun W hg => addr_Read.calls k _ _ _ _ _ W ⟨hg⟩ h1)
  have H2 := Aside0.mk (fun W hg => addr_Text.calls k _ _ _ _ _ W ⟨hg⟩ h2)
  have H3 := Aside0.mk (fun W hg => addr_Read.calls k _ _ _ _ _ W ⟨hg⟩ h3)
  have H4 := Aside0.mk (fun W hg => addr_Read.calls k _ _ _ _ _ W ⟨hg⟩ h4)
  have HG := Aside0.mk hG
  have HGS := Aside0.mk hgs
  have H5 := Aside0.mk h5
  clear h0 h1 h2 h3 h4 hG hgs
  have d1 : decide (100 < (s.size : Int)) = false := decide_eq_false (by omega)
  have d2 : decide ((t.size : Int) ≤ 39) = true := decide_eq_true (by omega)
  have d3 : (t.size ≤ 39) = True := eq_true h5
  clear h5
  have kc := fun (w : World) (s : ByteArray) => Lib.run_convert_string_bytes (P := Tryd.prog) w 9 39 5 s Tryd.underlying9 Tryd.underlying39 Tryd.underlying5
  go_enter Tryd.func4, Tryd.ntmps4
  go_wp2_with (first
    | (go_at_call 13; (with_reducible refine (H0.out _ HG.out).mono ?_); rintro e w1 ⟨rfl, hb1⟩; have HB1 := Aside0.mk hb1; clear hb1)
    | (go_at_call 14; (with_reducible refine (H1.out _ (HG.out.below HB1.out)).mono ?_); rintro e w2 ⟨rfl, hb2⟩; have HB2 := Aside0.mk (HB1.out.trans (hb2.mono HB1.out.size)); clear hb2))
  obtain ⟨ts, hrow⟩ := bytes_row (w2.alloc (.cells #[.bool six, .int .u64 hi, .int .u64 lo] 24)) s
  have hbw := bytesWorld_below (w2.alloc (.cells #[.bool six, .int .u64 hi, .int .u64 lo] 24)) 5 s
  have fa0 := World.alloc_heap_new w2 (.cells #[.bool six, .int .u64 hi, .int .u64 lo] 24)
  have FA0 := Aside0.mk ((hbw.block w2.heap.size (by simp)).trans fa0)
  have HB0 := Aside0.mk ((below_alloc HB2.out (.cells #[.bool six, .int .u64 hi, .int .u64 lo] 24)).trans (hbw.mono (below_alloc HB2.out (.cells #[.bool six, .int .u64 hi, .int .u64 lo] 24)).size))
  have HROW0 := Aside0.mk hrow
  have HG0 := Aside0.mk (HG.out.below HB0.out)
  clear hrow hbw fa0 kc
  generalize grownCap (w2.alloc (.cells #[.bool six, .int .u64 hi, .int .u64 lo] 24)) s.size 0 5 = cc at *
  generalize bytesWorld (w2.alloc (.cells #[.bool six, .int .u64 hi, .int .u64 lo] 24)) 5 s = w0 at *
  simp only [World.size_alloc] at HROW0 ⊢
  obtain ⟨R, hR⟩ : ∃ R, R = w2.heap.size := ⟨_, rfl⟩
  rw [← hR] at HROW0 FA0 ⊢
  have HRW : Aside0 (w.heap.size ≤ R) := ⟨by rw [hR]; exact HB2.out.size⟩
  have HGA := HG
  clear hR HB2 HB1 HG
  obtain ⟨xs, hxs⟩ : ∃ xs, xs = bytesOf s := ⟨_, rfl⟩
  rw [← hxs] at HROW0 HGS
  have HXL : Aside0 (xs.length = s.size) := ⟨by rw [hxs, bytesOf_length]⟩
  have HXR : Aside0 (∀ x ∈ xs, 0 ≤ x ∧ x < 256) := ⟨by
    rw [hxs]
    intro x hx
    obtain ⟨b, _, rfl⟩ := List.mem_map.1 hx
    have := b.toNat_lt
    omega⟩
  clear hxs
  go_loopw [6] (fun i wr => ∃ n : Nat, n ≤ s.size ∧ i = .int .i64 n ∧ Aside0 (BRow wr (R + 1) (grP xs n) ts) ∧ Aside0 (wr.heap[R]? = some (.cells #[.bool six, .int .u64 hi, .int .u64 lo] 24 (0, 0))) ∧ Aside0 (Below w.heap.size w wr) ∧ Aside0 (AddrLib.G wr)) (fun i _ => s.size - (RowKit.intOf i).toNat)
  case atStart => exact ⟨0, Nat.zero_le _, rfl, HROW0, FA0, HB0, HG0⟩
  case round =>
    clear HROW0 FA0 HB0 HG0
    obtain ⟨n, hn, rfl, HROW, FA, HB, HGW⟩ := hrel
    by_cases hlt : n < s.size
    · have hnx : n < xs.length := by rw [HXL.out]; exact hlt
      have hnl : n < (grP xs n).length := by rw [grP_len]; exact hnx
      have hc := HROW.out.cell n hnl
      have hf := HROW.out.free n hnl
      rw [grP_at xs n hnx] at hc
      have hxr : 0 ≤ xs.getD n 0 ∧ xs.getD n 0 < 256 := HXR.out _ (by rw [List.getD_eq_getElem?_getD, List.getElem?_eq_getElem hnx]; exact List.getElem_mem hnx)
      have HSET : Aside0 (∀ x, xs.getD n 0 = x → (grP xs n).set n (grI x) = grP xs (n + 1)) := ⟨fun x hx => by rw [← hx]; exact grP_set xs n hnx⟩
      have HSAME : Aside0 (∀ x, xs.getD n 0 = x → grI x = x → grP xs n = grP xs (n + 1)) := ⟨fun x hx h => grP_same xs n hnx (by rw [hx]; exact h)⟩
      obtain ⟨x, hx⟩ : ∃ x, xs.getD n 0 = x := ⟨_, rfl⟩
      have HX := Aside0.mk hx
      have HNL := Aside0.mk hnl
      rw [hx] at hc hxr
      clear hx hnx hnl
      by_cases c1 : 97 ≤ x
      · have b1 : decide (97 ≤ x) = true := decide_eq_true c1
        by_cases c2 : x ≤ 102
        · have b2 : decide (x ≤ 102) = true := decide_eq_true c2
          have hw : IntKind.u8.wrap (x - 32) = x - 32 := by rw [u8_wr]; omega
          go_wp2
          go_roundw
          case rel => exact ⟨n + 1, by omega, by go_num, ⟨by rw [← HSET.out x HX.out, show grI x = x - 32 by unfold grI; rw [if_pos ⟨c1, c2⟩]]; exact HROW.out.set n HNL.out _⟩, ⟨by rw [Below.heap_setCell _ _ _ _ (by simp)]; exact FA.out⟩, ⟨HB.out.setCell (by show w.heap.size ≤ R + 1; have := HRW.out; omega) _⟩, ⟨HGA.out.below (HB.out.setCell (by show w.heap.size ≤ R + 1; have := HRW.out; omega) _)⟩⟩
          case measure => simp [RowKit.intOf]; omega
        · have b2 : decide (x ≤ 102) = false := decide_eq_false c2
          go_wp2
          go_roundw
          case rel => exact ⟨n + 1, by omega, by go_num, ⟨by rw [← HSAME.out x HX.out (by unfold grI; rw [if_neg (fun h => c2 h.2)])]; exact HROW.out⟩, FA, HB, HGW⟩
          case measure => simp [RowKit.intOf]; omega
      · have b1 : decide (97 ≤ x) = false := decide_eq_false c1
        go_wp2
        go_roundw
        case rel => exact ⟨n + 1, by omega, by go_num, ⟨by rw [← HSAME.out x HX.out (by unfold grI; rw [if_neg (fun h => c1 h.1)])]; exact HROW.out⟩, FA, HB, HGW⟩
        case measure => simp [RowKit.intOf]; omega
    · obtain rfl : n = s.size := by omega
      have hall : grP xs s.size = xs.map grI := by rw [← HXL.out]; exact grP_all xs
      rw [hall] at HROW
      have hyl : (xs.map grI).length = s.size := by rw [List.length_map, HXL.out]
      generalize xs.map grI = ys at *
      have HYL := Aside0.mk hyl
      have fa := FA.out
      have a0 := blk_cell fa 0
      have a1 := blk_cell fa 1
      have a2 := blk_cell fa 2
      have af0 := blk_frozen fa 0
      have af1 := blk_frozen fa 1
      have af2 := blk_frozen fa 2
      simp only [List.getElem?_toArray, List.getElem?_cons_zero, List.getElem?_cons_succ] at a0 a1 a2
      clear hall hyl fa hlt hn
      go_wp2_with (first
        | (go_at_call 15; (with_reducible refine (H2.out wr HGW.out).mono ?_); rintro e w5 ⟨rfl, hb5⟩; have FA5 := Aside0.mk ((hb5.block _ (blk_lt FA.out)).trans FA.out); have HR5 := Aside0.mk (HROW.out.below hb5); have HG5 := Aside0.mk (HGW.out.below hb5); have HB5 := Aside0.mk (HB.out.trans (hb5.mono HB.out.size)); clear hb5)
        | (go_at_call 14; (with_reducible refine (H3.out w5 HG5.out).mono ?_); rintro e w6 ⟨rfl, hb6⟩; have FA6 := Aside0.mk ((hb6.block _ (blk_lt FA5.out)).trans FA5.out); have HR6 := Aside0.mk (HR5.out.below hb6); have HG6 := Aside0.mk (HG5.out.below hb6); have HB6 := Aside0.mk (HB5.out.trans (hb6.mono HB5.out.size)); clear hb6)
        | (go_at_call 15; (with_reducible refine (H2.out _ (HG6.out.below (below_alloc (Below.refl _ _) _))).mono ?_); rintro e w7 ⟨rfl, hb7⟩; have FA7 := Aside0.mk ((hb7.block _ (by have := blk_lt FA6.out; simp; omega)).trans (blk_alloc FA6.out _)); have FB7 := Aside0.mk ((hb7.block w6.heap.size (by simp)).trans (World.alloc_heap_new w6 (.cells #[.bool six, .int .u64 hi, .int .u64 lo] 24))); have HR7 := Aside0.mk ((HR6.out.below (below_alloc (Below.refl _ _) (.cells #[.bool six, .int .u64 hi, .int .u64 lo] 24))).below hb7); have HG7 := Aside0.mk ((HG6.out.below (below_alloc (Below.refl _ _) (.cells #[.bool six, .int .u64 hi, .int .u64 lo] 24))).below hb7); have HB7 := Aside0.mk ((below_alloc HB6.out (.cells #[.bool six, .int .u64 hi, .int .u64 lo] 24)).trans (hb7.mono (below_alloc HB6.out (.cells #[.bool six, .int .u64 hi, .int .u64 lo] 24)).size)); have hcv := string_of_reads (P := Tryd.prog) (src := 39) (dst := 9) (e := 5) (c := cc) Tryd.underlying39 Tryd.underlying5 Tryd.underlying9 (HR7.out.reads (by rw [HYL.out]; omega)); rw [HGS.out, HYL.out] at hcv; clear hb7)
        | (go_at_call 14; (with_reducible refine (H4.out w7 HG7.out).mono ?_); rintro e w8 ⟨rfl, hb8⟩; have fa8 := (hb8.block _ (blk_lt FA7.out)).trans FA7.out; have fb8 := (hb8.block _ (blk_lt FB7.out)).trans FB7.out; have HB8 := Aside0.mk (HB7.out.trans (hb8.mono HB7.out.size)); clear hb8; have p0 := fun o => blk_cell (blk_alloc fa8 o) 0; have p1 := fun o => blk_cell (blk_alloc fa8 o) 1; have p2 := fun o => blk_cell (blk_alloc fa8 o) 2; have pf0 := fun o => blk_frozen (blk_alloc fa8 o) 0; have pf1 := fun o => blk_frozen (blk_alloc fa8 o) 1; have pf2 := fun o => blk_frozen (blk_alloc fa8 o) 2; have q0 := fun o => blk_cell (blk_alloc fb8 o) 0; have q1 := fun o => blk_cell (blk_alloc fb8 o) 1; have q2 := fun o => blk_cell (blk_alloc fb8 o) 2; have qf0 := fun o => blk_frozen (blk_alloc fb8 o) 0; have qf1 := fun o => blk_frozen (blk_alloc fb8 o) 1; have qf2 := fun o => blk_frozen (blk_alloc fb8 o) 2; clear fa8 fb8; simp only [List.getElem?_toArray, List.getElem?_cons_zero, List.getElem?_cons_succ] at p0 p1 p2 q0 q1 q2))
      go_ret
      exact ⟨rfl, below_alloc HB8.out _⟩
end
end Go.Proofs.YtilobbjnmnnmnaaDoor.AddrLib
