/- What addr.cut and addr.zeros come to: an address' eight groups; the longest run of noughts, the first one of as long. -/
import Derived.Test.YtbalmnkbodcigaaGreatDoorAddrWorld
set_option linter.unusedSimpArgs false
set_option linter.unusedVariables false
namespace Go.Proofs.YtbalmnkbodcigaaGreatDoor.AddrLib
open Go.Shelf Go.RowKit Go.Lib Go.Proofs.YtbalmnkbodcigaaGreatDoorW.PrintWords Go.Proofs.YtbalmnkbodcigaaGreatDoorW.PrintLast Go.Proofs.YtbalmnkbodcigaaGreatDoorW.PrintMore

def g16 (x : Int) : Nat → Int
  | 0 => IntKind.u16.wrap x
  | 1 => IntKind.u16.wrap (x / 65536)
  | 2 => IntKind.u16.wrap (x / 4294967296)
  | _ => IntKind.u16.wrap (x / 281474976710656)
def cutL (hi lo : Int) : List Int := [g16 hi 3, g16 hi 2, g16 hi 1, g16 hi 0, g16 lo 3, g16 lo 2, g16 lo 1, g16 lo 0]
def ArrU (W : World) (g : Nat) (xs : List Int) : Prop := W.heap[g]? = some (.cells (xs.map (Value.int .u16)).toArray 78 (0, 0))
theorem ArrU.cell {W : World} {g : Nat} {xs : List Int} (h : ArrU W g xs) (i : Nat) (hi : i < xs.length) : W.cell? ⟨g, i, none⟩ = some (.int .u16 (xs.getD i 0)) := by
  unfold ArrU at h
  simp [World.cell?, h, List.getD_eq_getElem?_getD, hi]
theorem ArrU.free {W : World} {g : Nat} {xs : List Int} (h : ArrU W g xs) (i : Nat) : W.frozen? ⟨g, i, none⟩ = false := by
  unfold ArrU at h
  simp [World.frozen?, h]
theorem ArrU.set {W : World} {g : Nat} {xs : List Int} (h : ArrU W g xs) (i : Nat) (x : Int) : ArrU (W.setCell ⟨g, i, none⟩ (.int .u16 x)) g (xs.set i x) := by
  unfold ArrU at h ⊢
  simp [World.setCell, Array.getElem?_modify, h, List.map_set]
theorem ArrU.below {W W' : World} {g : Nat} {xs : List Int} (h : ArrU W g xs) (hb : Below W.heap.size W W') : ArrU W' g xs := (hb.block g (blk_lt h)).trans h
theorem ArrU.reads {W : World} {g : Nat} {xs : List Int} (h : ArrU W g xs) (o : Nat) (hl : xs.length ≤ 1000) : Kd.C (Kd.int .u16) W (some ⟨g, o, none⟩) (xs.drop o).length (xs.drop o) := by
  refine Kd.C_of_reads (d := (0 : Int)) (h1 := fun _ => rfl) ⟨rfl, by rw [List.length_drop]; omega, fun _ => ⟨_, rfl, fun j hj => ?_⟩⟩
  rw [List.length_drop] at hj
  rw [show (Addr.add ⟨g, o, none⟩ j : Addr) = ⟨g, o + j, none⟩ from by simp [Addr.add], h.cell (o + j) (by omega), List.getD_eq_getElem?_getD, List.getD_eq_getElem?_getD, List.getElem?_drop]
theorem ArrU.head {W : World} {g : Nat} {xs : List Int} (h : ArrU W g xs) (n : Nat) (hn : n ≤ xs.length) (hl : xs.length ≤ 1000) : Kd.C (Kd.int .u16) W (some ⟨g, 0, none⟩) (xs.take n).length (xs.take n) := by
  refine Kd.C_of_reads (d := (0 : Int)) (h1 := fun _ => rfl) ⟨rfl, by rw [List.length_take]; omega, fun _ => ⟨_, rfl, fun j hj => ?_⟩⟩
  rw [List.length_take] at hj
  rw [show (Addr.add ⟨g, 0, none⟩ j : Addr) = ⟨g, j, none⟩ from by (by_cases e : j = 0) <;> simp [Addr.add, e], h.cell j (by omega), List.getD_eq_getElem?_getD, List.getD_eq_getElem?_getD, List.getElem?_take_of_lt (by omega)]
def cutP (hi lo : Int) : Nat → List Int
  | 0 => [0, 0, 0, 0, 0, 0, 0, 0]
  | 1 => [g16 hi 3, 0, 0, 0, g16 lo 3, 0, 0, 0]
  | 2 => [g16 hi 3, g16 hi 2, 0, 0, g16 lo 3, g16 lo 2, 0, 0]
  | 3 => [g16 hi 3, g16 hi 2, g16 hi 1, 0, g16 lo 3, g16 lo 2, g16 lo 1, 0]
  | _ => cutL hi lo
def Bx (W : World) (R : Nat) (six : Bool) (hi lo : Int) : Prop := W.heap[R]? = some (.cells #[.bool six, .int .u64 hi, .int .u64 lo] 24 (0, 0))
theorem Bx.cells {W : World} {R : Nat} {six : Bool} {hi lo : Int} (h : Bx W R six hi lo) : W.cell? ⟨R, 0, none⟩ = some (.bool six) ∧ W.cell? ⟨R, 1, none⟩ = some (.int .u64 hi) ∧ W.cell? ⟨R, 2, none⟩ = some (.int .u64 lo) := by
  unfold Bx at h
  refine ⟨?_, ?_, ?_⟩ <;> (unfold World.cell?; rw [h]; rfl)
theorem Bx.set {W : World} {R : Nat} {six : Bool} {hi lo : Int} (h : Bx W R six hi lo) {g : Nat} (hne : g ≠ R) (i : Nat) (v : Value) : Bx (W.setCell ⟨g, i, none⟩ v) R six hi lo := by
  unfold Bx at h ⊢
  simp [World.setCell, Array.getElem?_modify, hne, h]
theorem Bx.below {W W' : World} {R : Nat} {six : Bool} {hi lo : Int} (h : Bx W R six hi lo) (hb : Below W.heap.size W W') : Bx W' R six hi lo := (hb.block R (blk_lt h)).trans h
set_option maxHeartbeats 4000000 in
set_option maxRecDepth 100000 in
theorem cut_ (six : Bool) (hi lo : Int) (w : World) :
    Calls Tryz.prog 54 #[.agg #[.bool six, .int .u64 hi, .int .u64 lo]] w fun e w' => e = .returned (.agg ((cutL hi lo).map (Value.int .u16)).toArray) ∧ Below w.heap.size w w' := by
  go_enter Tryz.func54, Tryz.ntmps54
  go_wp2
  have HA : Aside0 (ArrU ((w.alloc (.cells #[.bool six, .int .u64 hi, .int .u64 lo] 24)).alloc (.cells #[.int .u16 0, .int .u16 0, .int .u16 0, .int .u16 0, .int .u16 0, .int .u16 0, .int .u16 0, .int .u16 0] 78)) (w.heap.size + 1) (cutP hi lo 0)) := ⟨by
    have h := heap_alloc_new (w.alloc (.cells #[.bool six, .int .u64 hi, .int .u64 lo] 24)) (.cells #[.int .u16 0, .int .u16 0, .int .u16 0, .int .u16 0, .int .u16 0, .int .u16 0, .int .u16 0, .int .u16 0] 78)
    rw [World.size_alloc] at h
    exact h⟩
  have HX : Aside0 (Bx ((w.alloc (.cells #[.bool six, .int .u64 hi, .int .u64 lo] 24)).alloc (.cells #[.int .u16 0, .int .u16 0, .int .u16 0, .int .u16 0, .int .u16 0, .int .u16 0, .int .u16 0, .int .u16 0] 78)) w.heap.size six hi lo) := ⟨Bx.below (heap_alloc_new w _) (below_alloc (Below.refl _ _) _)⟩
  have HB : Aside0 (Below w.heap.size w ((w.alloc (.cells #[.bool six, .int .u64 hi, .int .u64 lo] 24)).alloc (.cells #[.int .u16 0, .int .u16 0, .int .u16 0, .int .u16 0, .int .u16 0, .int .u16 0, .int .u16 0, .int .u16 0] 78))) := ⟨below_alloc (below_alloc (Below.refl _ _) _) _⟩
  obtain ⟨R, hR⟩ : ∃ R, R = w.heap.size := ⟨_, rfl⟩
  rw [← hR] at HA HX ⊢
  have HRW := Aside0.mk hR
  clear hR
  go_loopw [5] (fun i wr => ∃ k : Nat, k ≤ 4 ∧ i = .int .i64 k ∧ Aside0 (ArrU wr (R + 1) (cutP hi lo k)) ∧ Aside0 (Bx wr R six hi lo) ∧ Aside0 (Below w.heap.size w wr)) (fun i _ => 4 - (RowKit.intOf i).toNat)
  case atStart => exact ⟨0, by omega, rfl, HA, HX, HB⟩
  case round =>
    clear HA HX HB
    obtain ⟨k, hk, rfl, HA, HX, HB⟩ := hrel
    obtain ⟨x0, x1, x2⟩ := HX.out.cells
    have hcase : k = 0 ∨ k = 1 ∨ k = 2 ∨ k = 3 ∨ k = 4 := by omega
    clear hk
    rcases hcase with rfl | rfl | rfl | rfl | rfl
    · have a1 := HA.out.cell 0 (by exact (by decide : 0 < 8))
      have a2 := HA.out.cell 4 (by exact (by decide : 4 < 8))
      have f1 := HA.out.free 0
      have f2 := HA.out.free 4
      simp only [cutP, cutL, List.getD_cons_zero, List.getD_cons_succ] at a1 a2
      go_wp2
      go_region
      go_wp2
      go_roundw
      case rel => exact ⟨1, by omega, rfl, ⟨(HA.out.set 0 _).set 4 _⟩, ⟨(HX.out.set (by omega) _ _).set (by omega) _ _⟩, ⟨below_drew1 ((HB.out.setCell (by show w.heap.size ≤ R + 1; have := HRW.out; omega) _).setCell (by show w.heap.size ≤ R + 1; have := HRW.out; omega) _)⟩⟩
      case measure => simp [RowKit.intOf]
    · have a1 := HA.out.cell 1 (by exact (by decide : 1 < 8))
      have a2 := HA.out.cell 5 (by exact (by decide : 5 < 8))
      have f1 := HA.out.free 1
      have f2 := HA.out.free 5
      simp only [cutP, cutL, List.getD_cons_zero, List.getD_cons_succ] at a1 a2
      go_wp2
      go_region
      go_wp2
      go_roundw
      case rel => exact ⟨2, by omega, rfl, ⟨(HA.out.set 1 _).set 5 _⟩, ⟨(HX.out.set (by omega) _ _).set (by omega) _ _⟩, ⟨below_drew1 ((HB.out.setCell (by show w.heap.size ≤ R + 1; have := HRW.out; omega) _).setCell (by show w.heap.size ≤ R + 1; have := HRW.out; omega) _)⟩⟩
      case measure => simp [RowKit.intOf]
    · have a1 := HA.out.cell 2 (by exact (by decide : 2 < 8))
      have a2 := HA.out.cell 6 (by exact (by decide : 6 < 8))
      have f1 := HA.out.free 2
      have f2 := HA.out.free 6
      simp only [cutP, cutL, List.getD_cons_zero, List.getD_cons_succ] at a1 a2
      go_wp2
      go_region
      go_wp2
      go_roundw
      case rel => exact ⟨3, by omega, rfl, ⟨(HA.out.set 2 _).set 6 _⟩, ⟨(HX.out.set (by omega) _ _).set (by omega) _ _⟩, ⟨below_drew1 ((HB.out.setCell (by show w.heap.size ≤ R + 1; have := HRW.out; omega) _).setCell (by show w.heap.size ≤ R + 1; have := HRW.out; omega) _)⟩⟩
      case measure => simp [RowKit.intOf]
    · have a1 := HA.out.cell 3 (by exact (by decide : 3 < 8))
      have a2 := HA.out.cell 7 (by exact (by decide : 7 < 8))
      have f1 := HA.out.free 3
      have f2 := HA.out.free 7
      simp only [cutP, cutL, List.getD_cons_zero, List.getD_cons_succ] at a1 a2
      go_wp2
      go_region
      go_wp2
      go_roundw
      case rel => exact ⟨4, by omega, rfl, ⟨(HA.out.set 3 _).set 7 _⟩, ⟨(HX.out.set (by omega) _ _).set (by omega) _ _⟩, ⟨below_drew1 ((HB.out.setCell (by show w.heap.size ≤ R + 1; have := HRW.out; omega) _).setCell (by show w.heap.size ≤ R + 1; have := HRW.out; omega) _)⟩⟩
      case measure => simp [RowKit.intOf]
    · clear x0 x1 x2
      have c0 := HA.out.cell 0 (by exact (by decide : 0 < 8))
      have f0 := HA.out.free 0
      have c1 := HA.out.cell 1 (by exact (by decide : 1 < 8))
      have f1 := HA.out.free 1
      have c2 := HA.out.cell 2 (by exact (by decide : 2 < 8))
      have f2 := HA.out.free 2
      have c3 := HA.out.cell 3 (by exact (by decide : 3 < 8))
      have f3 := HA.out.free 3
      have c4 := HA.out.cell 4 (by exact (by decide : 4 < 8))
      have f4 := HA.out.free 4
      have c5 := HA.out.cell 5 (by exact (by decide : 5 < 8))
      have f5 := HA.out.free 5
      have c6 := HA.out.cell 6 (by exact (by decide : 6 < 8))
      have f6 := HA.out.free 6
      have c7 := HA.out.cell 7 (by exact (by decide : 7 < 8))
      have f7 := HA.out.free 7
      simp only [cutP, cutL, List.getD_cons_zero, List.getD_cons_succ] at c0 c1 c2 c3 c4 c5 c6 c7
      go_wp2
      have hle : w.heap.size ≤ R + 1 := by have := HRW.out; omega
      have H8 : Aside0 (ArrU ((((((((wr.setCell ⟨R + 1, 0, none⟩ (.int .u16 (g16 hi 3))).setCell ⟨R + 1, 1, none⟩ (.int .u16 (g16 hi 2))).setCell ⟨R + 1, 2, none⟩ (.int .u16 (g16 hi 1))).setCell ⟨R + 1, 3, none⟩ (.int .u16 (g16 hi 0))).setCell ⟨R + 1, 4, none⟩ (.int .u16 (g16 lo 3))).setCell ⟨R + 1, 5, none⟩ (.int .u16 (g16 lo 2))).setCell ⟨R + 1, 6, none⟩ (.int .u16 (g16 lo 1))).setCell ⟨R + 1, 7, none⟩ (.int .u16 (g16 lo 0))) (R + 1) (cutL hi lo)) := ⟨((((((((HA.out.set 0 (g16 hi 3)).set 1 (g16 hi 2)).set 2 (g16 hi 1)).set 3 (g16 hi 0)).set 4 (g16 lo 3)).set 5 (g16 lo 2)).set 6 (g16 lo 1)).set 7 (g16 lo 0))⟩
      have HB8 : Aside0 (Below w.heap.size w ((((((((wr.setCell ⟨R + 1, 0, none⟩ (.int .u16 (g16 hi 3))).setCell ⟨R + 1, 1, none⟩ (.int .u16 (g16 hi 2))).setCell ⟨R + 1, 2, none⟩ (.int .u16 (g16 hi 1))).setCell ⟨R + 1, 3, none⟩ (.int .u16 (g16 hi 0))).setCell ⟨R + 1, 4, none⟩ (.int .u16 (g16 lo 3))).setCell ⟨R + 1, 5, none⟩ (.int .u16 (g16 lo 2))).setCell ⟨R + 1, 6, none⟩ (.int .u16 (g16 lo 1))).setCell ⟨R + 1, 7, none⟩ (.int .u16 (g16 lo 0)))) := ⟨((((((((HB.out.setCell hle _).setCell hle _).setCell hle _).setCell hle _).setCell hle _).setCell hle _).setCell hle _).setCell hle _)⟩
      generalize ((((((((wr.setCell ⟨R + 1, 0, none⟩ (.int .u16 (g16 hi 3))).setCell ⟨R + 1, 1, none⟩ (.int .u16 (g16 hi 2))).setCell ⟨R + 1, 2, none⟩ (.int .u16 (g16 hi 1))).setCell ⟨R + 1, 3, none⟩ (.int .u16 (g16 hi 0))).setCell ⟨R + 1, 4, none⟩ (.int .u16 (g16 lo 3))).setCell ⟨R + 1, 5, none⟩ (.int .u16 (g16 lo 2))).setCell ⟨R + 1, 6, none⟩ (.int .u16 (g16 lo 1))).setCell ⟨R + 1, 7, none⟩ (.int .u16 (g16 lo 0))) = W8 at H8 HB8 ⊢
      clear c0 c1 c2 c3 c4 c5 c6 c7 f0 f1 f2 f3 f4 f5 f6 f7 HA HB HX
      have d0 := H8.out.cell 0 (by exact (by decide : 0 < 8))
      have d1 := H8.out.cell 1 (by exact (by decide : 1 < 8))
      have d2 := H8.out.cell 2 (by exact (by decide : 2 < 8))
      have d3 := H8.out.cell 3 (by exact (by decide : 3 < 8))
      have d4 := H8.out.cell 4 (by exact (by decide : 4 < 8))
      have d5 := H8.out.cell 5 (by exact (by decide : 5 < 8))
      have d6 := H8.out.cell 6 (by exact (by decide : 6 < 8))
      have d7 := H8.out.cell 7 (by exact (by decide : 7 < 8))
      simp only [cutL, List.getD_cons_zero, List.getD_cons_succ] at d0 d1 d2 d3 d4 d5 d6 d7
      exact bodyPost_ret (v := .agg ((cutL hi lo).map (Value.int .u16)).toArray) (by simp [results, Tryz.results54, go_sem, d0, d1, d2, d3, d4, d5, d6, d7, cutL]) rfl ⟨rfl, HB8.out⟩
def zL : List Int → Int → Int → Int → Int → Int × Int
  | [], _, f, n, _ => (f, n)
  | x :: t, i, f, n, k => if x = 0 then (if n < k + 1 then zL t (i + 1) (i + 1 - (k + 1)) (k + 1) (k + 1) else zL t (i + 1) f n (k + 1)) else (if n < 0 then zL t (i + 1) (i + 1) 0 0 else zL t (i + 1) f n 0)
set_option maxHeartbeats 4000000 in
set_option maxRecDepth 100000 in
theorem zeros_ (l : List Int) (hl : l.length = 8) (w : World) :
    Calls Tryz.prog 55 #[.agg (l.map (Value.int .u16)).toArray] w fun e w' => e = .returned (.tuple #[.int .i64 (zL l 0 0 0 0).1, .int .i64 (zL l 0 0 0 0).2]) ∧ Below w.heap.size w w' := by
  match l, hl with
  | [a0, a1, a2, a3, a4, a5, a6, a7], _ =>
    obtain ⟨l, hL⟩ : ∃ l, l = [a0, a1, a2, a3, a4, a5, a6, a7] := ⟨_, rfl⟩
    have HL := Aside0.mk hL
    rw [← hL]
    have HZ : Aside0 (zL (l.drop 0) 0 0 0 0 = zL l 0 0 0 0) := ⟨rfl⟩
    generalize zL l 0 0 0 0 = z at HZ ⊢
    obtain ⟨z1, z2⟩ := z
    rw [hL]
    clear hL
    simp only [List.map_cons, List.map_nil]
    go_enter Tryz.func55, Tryz.ntmps55
    go_wp2
    have HA : Aside0 (ArrU (w.alloc (.cells #[.int .u16 a0, .int .u16 a1, .int .u16 a2, .int .u16 a3, .int .u16 a4, .int .u16 a5, .int .u16 a6, .int .u16 a7] 78)) w.heap.size l) := ⟨by rw [HL.out]; exact heap_alloc_new w _⟩
    have HB : Aside0 (Below w.heap.size w (w.alloc (.cells #[.int .u16 a0, .int .u16 a1, .int .u16 a2, .int .u16 a3, .int .u16 a4, .int .u16 a5, .int .u16 a6, .int .u16 a7] 78))) := ⟨below_alloc (Below.refl _ _) _⟩
    have HLN : Aside0 (l.length = 8) := ⟨by rw [HL.out]; rfl⟩
    generalize w.alloc (.cells #[.int .u16 a0, .int .u16 a1, .int .u16 a2, .int .u16 a3, .int .u16 a4, .int .u16 a5, .int .u16 a6, .int .u16 a7] 78) = W0 at HA HB ⊢
    obtain ⟨R, hR⟩ : ∃ R, R = w.heap.size := ⟨_, rfl⟩
    rw [← hR] at HA ⊢
    clear hR
    go_loopw [2, 3, 4, 5] (fun f n i k wr => Aside0 (ArrU wr R l) ∧ Aside0 (Below w.heap.size w wr) ∧ ∃ (j : Nat) (f' n' k' : Int), j ≤ 8 ∧ i = .int .i64 j ∧ f = .int .i64 f' ∧ n = .int .i64 n' ∧ k = .int .i64 k' ∧ 0 ≤ f' ∧ f' ≤ j ∧ 0 ≤ n' ∧ n' ≤ j ∧ 0 ≤ k' ∧ k' ≤ j ∧ Aside0 (zL (l.drop j) j f' n' k' = (z1, z2))) (fun _ _ i _ _ => 8 - (RowKit.intOf i).toNat)
    case atStart => exact ⟨HA, HB, 0, 0, 0, 0, by omega, rfl, rfl, rfl, rfl, by omega, by omega, by omega, by omega, by omega, by omega, HZ⟩
    case round =>
      clear HA HB HZ
      obtain ⟨HA, HB, j, f', n', k', hj, rfl, rfl, rfl, rfl, b1, b2, b3, b4, b5, b6, HZ⟩ := hrel
      by_cases hlt : j < 8
      · have hz := HZ.out
        have hjl : j < l.length := by rw [HLN.out]; exact hlt
        rw [List.drop_eq_getElem_cons hjl] at hz
        have hc := HA.out.cell j hjl
        rw [List.getD_eq_getElem?_getD, List.getElem?_eq_getElem hjl, Option.getD_some] at hc
        generalize l[j] = x at hz hc
        unfold zL at hz
        clear HZ hjl
        by_cases hx : x = 0
        · rw [if_pos hx] at hz
          have e1 : (x != 0) = false := bne_eq_false_iff_eq.2 hx
          by_cases hn : n' < k' + 1
          · rw [if_pos hn] at hz
            have HZ := Aside0.mk hz
            have d1 : decide (n' < k' + 1) = true := decide_eq_true hn
            clear hz hx hn
            go_wp2
            go_roundw
            case rel => exact ⟨HA, HB, j + 1, (j : Int) + 1 - (k' + 1), k' + 1, k' + 1, by omega, by go_num, rfl, rfl, rfl, by omega, by omega, by omega, by omega, by omega, by omega, HZ⟩
            case measure => simp [RowKit.intOf]; omega
          · rw [if_neg hn] at hz
            have HZ := Aside0.mk hz
            have d1 : decide (n' < k' + 1) = false := decide_eq_false hn
            clear hz hx hn
            go_wp2
            go_roundw
            case rel => exact ⟨HA, HB, j + 1, f', n', k' + 1, by omega, by go_num, rfl, rfl, rfl, by omega, by omega, by omega, by omega, by omega, by omega, HZ⟩
            case measure => simp [RowKit.intOf]; omega
        · rw [if_neg hx, if_neg (by omega)] at hz
          have HZ := Aside0.mk hz
          have e1 : (x != 0) = true := bne_iff_ne.2 hx
          have d1 : decide (n' < 0) = false := decide_eq_false (by omega)
          clear hz hx
          go_wp2
          go_roundw
          case rel => exact ⟨HA, HB, j + 1, f', n', 0, by omega, by go_num, rfl, rfl, rfl, by omega, by omega, by omega, by omega, by omega, by omega, HZ⟩
          case measure => simp [RowKit.intOf]; omega
      · have hz := HZ.out
        rw [List.drop_eq_nil_of_le (by rw [HLN.out]; omega)] at hz
        unfold zL at hz
        simp only [Prod.mk.injEq] at hz
        obtain ⟨rfl, rfl⟩ := hz
        clear HZ
        go_wp2
        go_ret2
        exact ⟨rfl, HB.out⟩
end Go.Proofs.YtbalmnkbodcigaaGreatDoor.AddrLib
