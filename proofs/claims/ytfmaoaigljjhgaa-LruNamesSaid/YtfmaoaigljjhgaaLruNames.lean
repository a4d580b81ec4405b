/- The law LruNames, walked: the chapter's examples come out as it tells. -/
import Derived.Test.YtfmaoaigljjhgaaLruSX
import Derived.Test.YtfmaoaigljjhgaaLru9
import Derived.Shelf.Abstract
namespace Go.Proofs.Ytfmaoaigljjhgaa.LruN
open Go Go.RowKit Go.Maps Go.Proofs.YtfmaoaigljjhgaaW.PrintWords Go.Proofs.Ytfmaoaigljjhgaa.LruS
open Go.Proofs.Ytfmaoaigljjhgaa.Lru (Turn lives_calls)

def A : ByteArray := ⟨#[97]⟩
def B : ByteArray := ⟨#[98]⟩
def X : ByteArray := ⟨#[120]⟩
def Y : ByteArray := ⟨#[121]⟩
def Z : ByteArray := ⟨#[122]⟩
abbrev NX (b : Nat) (w : World) : Prop := LruS.Lru w b (b + 1) 0 []
abbrev NG (b : Nat) (k : Nat) : Prop := foot b (b + 1) [] k
theorem names_start {w w1 w2 w3 : World} (b1 : Below w.heap.size w w1) (l2 : LruS.Lru w2 w1.heap.size (w1.heap.size + 1) 2 []) (b2 : Below w1.heap.size w1 w2) (z2 : w2.heap.size = w1.heap.size + 2) (l3 : LruS.Lru w3 w2.heap.size (w2.heap.size + 1) 0 []) (b3 : Below w2.heap.size w2 w3) (z3 : w3.heap.size = w2.heap.size + 2) :
    OwnX (NX w2.heap.size) (NG w2.heap.size) w w3 w1.heap.size 2 [] := by
  have hs := b1.size
  refine ⟨w1.heap.size + 1, [], l2.below b3, rfl, ?_, (b1.trans (b2.mono hs)).trans (b3.mono (Nat.le_trans hs b2.size)), l3, ?_⟩
  · rintro k (h | h | ⟨e, he, _⟩)
    · omega
    · omega
    · cases he
  · rintro k (h | h | ⟨e, he, _⟩)
    · refine ⟨by omega, ?_⟩
      rintro (g | g | ⟨e, he, _⟩)
      · omega
      · omega
      · cases he
    · refine ⟨by omega, ?_⟩
      rintro (g | g | ⟨e, he, _⟩)
      · omega
      · omega
      · cases he
    · cases he
theorem n1 {w w3 : World} {b c : Nat} (h : OwnX (NX c) (NG c) w w3 b 2 []) : Calls Try.prog 21 #[.pointer (some ⟨b, 0, none⟩), .string ⟨#[97]⟩, .string ⟨#[120]⟩] w3 fun e w' => e = .returned (.tuple #[.string ⟨#[]⟩, .bool false, .int .i64 0]) ∧ OwnX (NX c) (NG c) w w' b 2 [(A, X)] :=
  xPut (stays_lru _ _ _ _) h (by decide) A (by decide) X (by decide) (by decide) (by decide +kernel)
theorem n2 {w w3 : World} {b c : Nat} (h : OwnX (NX c) (NG c) w w3 b 2 [(A, X)]) : Calls Try.prog 21 #[.pointer (some ⟨b, 0, none⟩), .string ⟨#[98]⟩, .string ⟨#[121]⟩] w3 fun e w' => e = .returned (.tuple #[.string ⟨#[]⟩, .bool false, .int .i64 0]) ∧ OwnX (NX c) (NG c) w w' b 2 [(B, Y), (A, X)] :=
  xPut (stays_lru _ _ _ _) h (by decide) B (by decide) Y (by decide) (by decide) (by decide +kernel)
theorem n3 {w w3 : World} {b c : Nat} (h : OwnX (NX c) (NG c) w w3 b 2 [(B, Y), (A, X)]) : Calls Try.prog 22 #[.pointer (some ⟨b, 0, none⟩), .string ⟨#[97]⟩] w3 fun e w' => e = .returned (.tuple #[.string ⟨#[120]⟩, .bool true]) ∧ OwnX (NX c) (NG c) w w' b 2 [(B, Y), (A, X)] :=
  (xLook (stays_lru _ _ _ _) h A (by decide) (x := X) (q := true) (by decide +kernel)).mono fun _ _ h => ⟨h.1, h.2.1⟩
theorem n4 {w w3 : World} {b c : Nat} (h : OwnX (NX c) (NG c) w w3 b 2 [(B, Y), (A, X)]) : Calls Try.prog 21 #[.pointer (some ⟨b, 0, none⟩), .string ⟨#[97]⟩, .string ⟨#[122]⟩] w3 fun e w' => e = .returned (.tuple #[.string ⟨#[]⟩, .bool false, .int .i64 0]) ∧ OwnX (NX c) (NG c) w w' b 2 [(A, Z), (B, Y)] :=
  xPut (stays_lru _ _ _ _) h (by decide) A (by decide) Z (by decide) (by decide) (by decide +kernel)
theorem n5 {w w3 : World} {b c : Nat} (h : OwnX (NX c) (NG c) w w3 b 2 [(A, Z), (B, Y)]) : Calls Try.prog 23 #[.pointer (some ⟨b, 0, none⟩), .string ⟨#[97]⟩] w3 fun e w' => e = .returned (.tuple #[.string ⟨#[122]⟩, .bool true]) ∧ OwnX (NX c) (NG c) w w' b 2 [(A, Z), (B, Y)] := by
  have := xGet (stays_lru _ _ _ _) h A (by decide) (x := Z) (q := true) (by decide +kernel)
  rw [show getL A [(A, Z), (B, Y)] = [(A, Z), (B, Y)] by decide +kernel] at this
  exact this
abbrev MX (b : Nat) (D : Nat × Nat) (w : World) : Prop := LruS.Lru w b (b + 1) 0 [] ∧ (Boxed w D.1 3 (.int .i64 2) ∧ w.heap[D.2]? = some (.deferred (some [])))
abbrev MG (b : Nat) (D : Nat × Nat) (k : Nat) : Prop := foot b (b + 1) [] k ∨ (k = D.1 ∨ k = D.2)
theorem stays_m (b : Nat) (D : Nat × Nat) : Stays (MX b D) (MG b D) := stays_and (stays_lru _ _ _ _) (stays_and (stays_box _ _ _) (fun _ _ h hl => (h D.2 rfl).trans hl))
theorem names_mid {w w8 W : World} {b c : Nat} {L : List KV} (h : OwnX (NX c) (NG c) w w8 b 2 L) (hb : Below w8.heap.size w8 W) {D E : Nat} (hD : w8.heap.size ≤ D) (hE : w8.heap.size ≤ E) (hv : Boxed W D 3 (.int .i64 2)) (hk : W.heap[E]? = some (.deferred (some []))) : OwnX (MX c (D, E)) (MG c (D, E)) w W b 2 L := by
  obtain ⟨mb, F, g1, g2, g3, g4, g5, g6⟩ := h
  refine ⟨mb, F, g1.below hb, g2, g3, g4.trans (hb.mono g4.size), ⟨stays_lru _ _ _ _ w8 W (fun k hk => hb.block k (g6 k hk).1) g5, hv, hk⟩, ?_⟩
  rintro k (hk' | hk' | hk')
  · exact ⟨Nat.lt_of_lt_of_le (g6 k hk').1 hb.size, (g6 k hk').2⟩
  · have hk2 : k = D := hk'
    rw [hk2]
    exact ⟨hv.lt, fun hf => by have := g1.lt hf; omega⟩
  · have hk2 : k = E := hk'
    rw [hk2]
    exact ⟨(Array.getElem?_eq_some_iff.1 hk).1, fun hf => by have := g1.lt hf; omega⟩
theorem n6 {w w3 : World} {b c : Nat} {D : Nat × Nat} (h : OwnX (MX c D) (MG c D) w w3 b 2 [(A, Z), (B, Y)]) : Calls Try.prog 21 #[.pointer (some ⟨c, 0, none⟩), .string ⟨#[97]⟩, .string ⟨#[120]⟩] w3 fun e w' => e = .returned (.tuple #[.string ⟨#[]⟩, .bool false, .int .i64 10]) ∧ OwnX (MX c D) (MG c D) w w' b 2 [(A, Z), (B, Y)] := by
  refine (Put_full h.there.1 A X).mono ?_
  rintro e w' ⟨he, n, rfl⟩
  exact ⟨he, h.drewN (stays_m c D) n⟩
theorem n7 {w w3 : World} {b c : Nat} {D : Nat × Nat} (h : OwnX (MX c D) (MG c D) w w3 b 2 [(A, Z), (B, Y)]) : Calls Try.prog 25 #[.pointer (some ⟨b, 0, none⟩), .string ⟨#[98]⟩] w3 fun e w' => e = .returned (.bool true) ∧ OwnX (MX c D) (MG c D) w w' b 2 [(A, Z)] := by
  have := xDrop (stays_m c D) h B (by decide) (q := true) (by decide +kernel)
  rw [show dropL B [(A, Z), (B, Y)] = [(A, Z)] by decide +kernel] at this
  exact this
theorem n8 {w w3 : World} {b c : Nat} {D : Nat × Nat} (h : OwnX (MX c D) (MG c D) w w3 b 2 [(A, Z)]) : Calls Try.prog 25 #[.pointer (some ⟨b, 0, none⟩), .string ⟨#[98]⟩] w3 fun e w' => e = .returned (.bool false) ∧ OwnX (MX c D) (MG c D) w w' b 2 [(A, Z)] := by
  have := xDrop (stays_m c D) h B (by decide) (q := false) (by decide +kernel)
  rw [show dropL B [(A, Z)] = [(A, Z)] by decide +kernel] at this
  exact this
theorem n9 {w w3 : World} {b c : Nat} {D : Nat × Nat} (h : OwnX (MX c D) (MG c D) w w3 b 2 [(A, Z)]) : Calls Try.prog 26 #[.pointer (some ⟨b, 0, none⟩)] w3 fun e w' => (∃ v, e = .returned v) ∧ OwnX (MX c D) (MG c D) w w' b 2 [] := xClear (stays_m c D) h
theorem n10 {w w3 : World} {b c : Nat} {D : Nat × Nat} (h : OwnX (MX c D) (MG c D) w w3 b 2 []) : Calls Try.prog 27 #[.pointer (some ⟨b, 0, none⟩)] w3 fun e w' => e = .returned (.int .i64 0) ∧ OwnX (MX c D) (MG c D) w w' b 2 [] ∧ Drawn0 w3 w' := xLen (stays_m c D) h
theorem n11 {w w3 : World} {b c : Nat} {D : Nat × Nat} (h : OwnX (MX c D) (MG c D) w w3 b 2 []) : Calls Try.prog 27 #[.pointer (some ⟨c, 0, none⟩)] w3 fun e w' => e = .returned (.int .i64 0) ∧ OwnX (MX c D) (MG c D) w w' b 2 [] ∧ Drawn0 w3 w' := by
  refine (Len_calls h.there.1).mono ?_
  rintro e w' ⟨he, n, rfl⟩
  exact ⟨he, h.drewN (stays_m c D) n, n, rfl⟩

attribute [local go_sem] Oper.semAt_some
set_option maxHeartbeats 8000000 in
set_option maxRecDepth 100000 in
theorem LruNames_in (n : Nat) (hn : 5 ≤ n) (w : World) :
    CallsIn Fence.wide n Try.prog 6 #[] w fun e W' => e = .returned (.bool true) ∧ Below w.heap.size w W' := by
  have h1 : 1 ≤ n := by omega
  refine callsIn_of_wp_marks Try.func6 rfl trivial ?_ rfl
  simp only [Try.ntmps6, List.size_toArray, List.length_nil, Nat.reduceSub, Array.replicate_succ, Array.replicate_zero, List.push_toArray, List.append_toArray, List.nil_append, List.cons_append]
  have hfn := LruS.run_func_not
  gi_wp2_with (first
    | (refine ⟨trivial, ?_⟩; gi_at_call 9; (with_reducible refine CallsIn.mono (callsIn_wide.2 (lives_calls w)) ?_); rintro e w1 ⟨rfl, hb1⟩; have HB1 := Aside0.mk hb1; clear hb1)
    | (refine ⟨trivial, ?_⟩; gi_at_call 20; (with_reducible refine CallsIn.mono (callsIn_wide.2 (New_calls w1 2)) ?_); rintro e w2 ⟨rfl, hl2, hb2, hz2⟩; rw [if_pos (by decide)] at hl2; have HL2 := Aside0.mk hl2; have HB2 := Aside0.mk hb2; have HZ2 := Aside0.mk hz2; clear hl2 hb2 hz2)
    | (refine ⟨trivial, ?_⟩; gi_at_call 20; (with_reducible refine CallsIn.mono (callsIn_wide.2 (New_calls w2 (-1))) ?_); rintro e w3 ⟨rfl, hl3, hb3, hz3⟩; rw [if_neg (by decide)] at hl3; have H3 := Aside0.mk (names_start HB1.out HL2.out HB2.out HZ2.out hl3 hb3 hz3); clear hl3 hb3 hz3)
    | (refine ⟨trivial, ?_⟩; gi_at_call 21; (with_reducible refine CallsIn.mono (callsIn_wide.2 (n1 H3.out)) ?_); rintro e w4 ⟨rfl, h4⟩; have H4 := Aside0.mk h4; clear h4 H3)
    | (refine ⟨trivial, ?_⟩; gi_at_call 21; (with_reducible refine CallsIn.mono (callsIn_wide.2 (n2 H4.out)) ?_); rintro e w5 ⟨rfl, h5⟩; have H5 := Aside0.mk h5; clear h5 H4)
    | (refine ⟨trivial, ?_⟩; gi_at_call 22; (with_reducible refine CallsIn.mono (callsIn_wide.2 (n3 H5.out)) ?_); rintro e w6 ⟨rfl, h6⟩; have H6 := Aside0.mk h6; clear h6 H5)
    | (refine ⟨trivial, ?_⟩; gi_at_call 21; (with_reducible refine CallsIn.mono (callsIn_wide.2 (n4 H6.out)) ?_); rintro e w7 ⟨rfl, h7⟩; have H7 := Aside0.mk h7; clear h7 H6)
    | (refine ⟨trivial, ?_⟩; gi_at_call 23; (with_reducible refine CallsIn.mono (callsIn_wide.2 (n5 H7.out)) ?_); rintro e w8 ⟨rfl, h8⟩; have H8 := Aside0.mk h8; clear h8 H7)
    | (refine ⟨trivial, ?_⟩; gi_at_call 24; (with_reducible refine CallsIn.mono (All_calls (n - 1) (some ⟨w1.heap.size, 0, none⟩) w8) ?_); rintro e w9 ⟨rfl, rfl⟩))
  clear hfn
  obtain ⟨wA, hwA⟩ : ∃ wA, (w8.alloc (.cells #[.pointer (some ⟨w1.heap.size, 0, none⟩)] 46)).alloc (.cells #[.int .i64 0] 3) = wA := ⟨_, rfl⟩
  have hbA : Below w8.heap.size w8 wA := by rw [← hwA]; exact ((Below.refl _ _).alloc (Nat.le_refl _) _).alloc (by simp) _
  have hzA : wA.heap.size = w8.heap.size + 2 := by rw [← hwA]; simp
  have hbx : wA.cell? ⟨w8.heap.size, 0, none⟩ = some (.pointer (some ⟨w1.heap.size, 0, none⟩)) := by
    rw [← hwA]
    exact ((Boxed.new w8 46 (.pointer (some ⟨w1.heap.size, 0, none⟩))).alloc _).cell
  have hbn : Boxed wA (w8.heap.size + 1) 3 (.int .i64 0) := by
    rw [← hwA]
    have := Boxed.new (w8.alloc (.cells #[.pointer (some ⟨w1.heap.size, 0, none⟩)] 46)) 3 (.int .i64 0)
    simpa using this
  have h8 := H8.out
  have hlow := h8.low
  have hseq := all1_stops (n - 1) (by omega) w8.heap.size (some ⟨w1.heap.size, 0, none⟩) [(A, Z), (B, Y)] (by decide) wA (by omega) hbx (fun W hW => (h8.below (stays_lru _ _ _ _) hbA).nodes (by decide) W hW)
  rw [hwA]
  have HZA := Aside0.mk hzA
  clear hwA
  refine wp_range_skip rfl h1 (gf := 41) (lb := #[.pointer (some ⟨w8.heap.size, 0, none⟩)]) rfl trivial (enters_of Try.func41 (by kernel_rfl) rfl) hseq (fun a b => a.trans b) (fun W l o o' _ hl hc _ => KpC.put W l o o' hl hc) (Below.refl _ _) (fun _ => rfl)
    (fun pre W => Boxed W (w8.heap.size + 1) 3 (.int .i64 (pre.length : Int)) ∧ Turn (fun k => k = w8.heap.size + 1) wA W)
    (fun _ _ _ => False)
    (OwnFrom.and (fun s W W' row hs hg hr => hs.kept hg (fun e => by have := (hr _ e.symm).1; have := HZA.out; omega)) (ownFrom_turn (Nat.le_refl _)))
    (fun _ _ _ _ _ hs _ _ => hs)
    ⟨hbn, Lru.Turn.refl _ _⟩
    ?body ?done ?stop
  case body =>
    rintro l pre x W ⟨hv, ht⟩ hlt
    have hc := hv.cell
    have hf := hv.frozen
    have hlt2 : pre.length < 2 := hlt
    have hst : Value.int .i64 (wrap64 ((pre.length : Int) + 1)) = .int .i64 (((pre ++ [x]).length : Nat) : Int) := by
      rw [int_step (by omega), List.length_append]
      rfl
    have HST := Aside0.mk hst
    have HV := Aside0.mk hv
    have HT := Aside0.mk ht
    clear hv ht hlt hlt2 hst
    gi_wp2
    have hsz := HT.out.size
    have hz := HZA.out
    refine ⟨(KeepsOthers.setCell _ _ _).from _, ⟨by simp, fun k cs T fz hk hkc => ?_⟩, ?_, HT.out.trans (Lru.Turn.setCell (F := fun k => k = w8.heap.size + 1) _ (a := ⟨w8.heap.size + 1, 0, none⟩) rfl _)⟩
    · rw [Below.heap_setCell _ _ _ _ (by simp only; omega)]
      exact hkc
    · have := HV.out.set (.int .i64 (wrap64 ((pre.length : Int) + 1)))
      rw [HST.out] at this ⊢
      exact this
  case done =>
    rintro D ys W hD hys ⟨hv, ht⟩ hK
    subst hys
    have hbW : Below w8.heap.size w8 W := hbA.trans (ht.below (fun k hk => by rw [hk]; omega) hbA.size)
    have hM := names_mid h8 hbW (Nat.le_succ _) (show w8.heap.size ≤ D by omega) hv hK
    have HM := Aside0.mk hM
    have hc := hv.cell
    have HC := Aside0.mk hc
    clear hM hv ht hc
    gi_wp2_with (first
      | (refine ⟨trivial, ?_⟩; gi_at_call 21; (with_reducible refine CallsIn.mono (callsIn_wide.2 (n6 HM.out)) ?_); rintro e wB ⟨rfl, hB⟩; have HB := Aside0.mk hB; clear hB HM)
      | (refine ⟨trivial, ?_⟩; gi_at_call 25; (with_reducible refine CallsIn.mono (callsIn_wide.2 (n7 HB.out)) ?_); rintro e wC ⟨rfl, hC⟩; have HCC := Aside0.mk hC; clear hC HB)
      | (refine ⟨trivial, ?_⟩; gi_at_call 25; (with_reducible refine CallsIn.mono (callsIn_wide.2 (n8 HCC.out)) ?_); rintro e wD ⟨rfl, hD2⟩; have HDD := Aside0.mk hD2; clear hD2 HCC)
      | (refine ⟨trivial, ?_⟩; gi_at_call 26; (with_reducible refine CallsIn.mono (callsIn_wide.2 (n9 HDD.out)) ?_); rintro e wE ⟨⟨vE, rfl⟩, hE⟩; have HEE := Aside0.mk hE; have hcE := hE.there.2.1.cell; clear hE HDD)
      | (refine ⟨trivial, ?_⟩; gi_at_call 27; (with_reducible refine CallsIn.mono (callsIn_wide.2 (n10 HEE.out)) ?_); rintro e wF ⟨rfl, hF, nF, rfl⟩; have HFF := Aside0.mk hF; clear hF HEE)
      | (refine ⟨trivial, ?_⟩; gi_at_call 27; (with_reducible refine CallsIn.mono (callsIn_wide.2 (n11 HFF.out)) ?_); rintro e wG ⟨rfl, hG, nG, rfl⟩; have HGG := Aside0.mk hG; clear hG HFF))
    have hk2 : (wE.drewN (nF + nG)).heap[D]? = some (.deferred (some [])) := HGG.out.there.2.2
    have hl := HGG.out.low
    have hlo : Below w.heap.size w (wE.drewN (nF + nG)) := ⟨hl.os, hl.tape, hl.output, hl.size, hl.block⟩
    refine ⟨by simp, .inl ⟨_, _, rfl, run_takeDeferred hk2, ?_⟩⟩
    exact ⟨_, results_tmp rfl _ _ _, rfl, hlo.trans (belowK_b (w := w) (Nat.le_refl _) _ D _ _ (by have := hlow.size; omega) hk2 rfl rfl)⟩
  case stop =>
    rintro D c pre W _ _ h _
    exact h.elim
theorem LruNames_calls (w : World) : Calls Try.prog 6 #[] w fun e W' => e = .returned (.bool true) ∧ Below w.heap.size w W' := callsIn_wide.1 (LruNames_in 5 (Nat.le_refl _) w)
end Go.Proofs.Ytfmaoaigljjhgaa.LruN
