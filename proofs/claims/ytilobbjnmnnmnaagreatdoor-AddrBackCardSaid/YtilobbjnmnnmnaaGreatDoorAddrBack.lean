/- An address out of a row of labels: addr.back. -/
import Derived.Test.YtilobbjnmnnmnaaGreatDoorAddrChunk
import Derived.Test.YtilobbjnmnnmnaaGreatDoorAddrReverse
set_option linter.unusedSimpArgs false
set_option linter.unusedVariables false
namespace Go.Proofs.YtilobbjnmnnmnaaGreatDoor.AddrLib
open Go.RowKit Go.Lib Go.Proofs.YtilobbjnmnnmnaaGreatDoorW.PrintWords Go.Proofs.YtilobbjnmnnmnaaGreatDoorW.PrintLast Go.Proofs.YtilobbjnmnnmnaaGreatDoorW.PrintMore

section
open Go.Shelf
attribute [local go_sem] Oper.semAt_some
/-- The labels of group i. -/
def grpL (r : List ByteArray) (i : Nat) : List ByteArray := ((r.drop 2).drop (4 * i)).take 4
def goB (jn : List ByteArray → ByteArray → Option ByteArray) (nm : ByteArray → Int → Int → Option (Int × Bool)) (r : List ByteArray) : Nat → Option (List Int)
  | 0 => some []
  | i + 1 => (goB jn nm r i).bind fun acc => (jn (grpL r i) ⟨#[]⟩).bind fun s => (nm s 4 16).bind fun p => if p.2 = true then some (acc ++ [p.1 % 65536]) else none
/-- Only where all groups are numbers is anything said of thirty-four labels. -/
def backF (rv : List ByteArray → Option (List ByteArray)) (jn : List ByteArray → ByteArray → Option ByteArray) (el : ByteArray → Option (Bool × Int × Int × Bool)) (nm : ByteArray → Int → Int → Option (Int × Bool)) (of : List Int → Option (Bool × Int × Int)) (l : List ByteArray) : Option (Bool × Int × Int × Bool) :=
  if l = [] then none else (rv l).bind fun r => if l.length = 6 then (jn (r.drop 2) ⟨#[46]⟩).bind el else if l.length = 34 then (goB jn nm r 8).bind fun g => (of g).bind fun t => some (t.1, t.2.1, t.2.2, true) else some (false, 0, 0, false)

theorem back_results (tmps : Array Value) (p q : Nat) (a : Bool) (b c : Int) (d : Bool) (w : World) (hp : tmps.getD 2 undef = .pointer (some ⟨p, 0, none⟩)) (hq : tmps.getD 3 undef = .pointer (some ⟨q, 0, none⟩))
    (h0 : w.cell? ⟨p, 0, none⟩ = some (.bool a)) (h1 : w.cell? ⟨p, 1, none⟩ = some (.int .u64 b)) (h2 : w.cell? ⟨p, 2, none⟩ = some (.int .u64 c)) (h3 : w.cell? ⟨q, 0, none⟩ = some (.bool d)) :
    (results Tryz.f77 tmps).run Tryz.prog w = .ok (.tuple #[.agg #[.bool a, .int .u64 b, .int .u64 c], .bool d]) w := by
  have hr : Tryz.f77.results = #[ResultVar.cell 2 24, ResultVar.cell 3 4] := by kernel_rfl
  have hp' : tmps[2]?.getD undef = .pointer (some ⟨p, 0, none⟩) := by simpa using hp
  have hq' : tmps[3]?.getD undef = .pointer (some ⟨q, 0, none⟩) := by simpa using hq
  simp [results, hr, go_sem, h0, h1, h2, h3, hp', hq']

/-- The two results' boxes, and the row turned: what the walk knows behind slices.Reverse. -/
structure BackQ (w0 w : World) (ad : Addr) (ln cp : Nat) (r : List ByteArray) (W : World) : Prop where
  box : W.heap[w.heap.size]? = some (.cells #[.bool false, .int .u64 0, .int .u64 0] 24 (0, 0))
  ok : W.heap[w.heap.size + 1]? = some (.cells #[.bool false] 4 (0, 0))
  row : Kd.C Kd.string W (some ad) r.length r
  len : r.length = ln
  cap : ln ≤ cp
  below : Below w0.heap.size w0 W
  old : w0.heap.size ≤ w.heap.size
theorem BackQ.keep {w0 w W W' : World} {ad : Addr} {ln cp : Nat} {r : List ByteArray} (h : BackQ w0 w ad ln cp r W) (hb : Below W.heap.size W W') : BackQ w0 w ad ln cp r W' :=
  ⟨(hb.block _ (Array.getElem?_eq_some_iff.1 h.box).1).trans h.box, (hb.block _ (Array.getElem?_eq_some_iff.1 h.ok).1).trans h.ok, Kd.C_below h.row hb, h.len, h.cap, h.below.trans (hb.mono h.below.size), h.old⟩
theorem cell_of_ {W : World} {g t : Nat} {cs : Array Value} (h : W.heap[g]? = some (.cells cs t (0, 0))) (i : Nat) : W.cell? ⟨g, i, none⟩ = cs[i]? := by
  unfold World.cell?
  simp only [h]
  rfl
theorem frozen_of_ {W : World} {g t : Nat} {cs : Array Value} (h : W.heap[g]? = some (.cells cs t (0, 0))) (i : Nat) : W.frozen? ⟨g, i, none⟩ = false := by
  simp [World.frozen?, h]
theorem BackQ.ends {w0 w W : World} {ad : Addr} {ln cp : Nat} {r : List ByteArray} (h : BackQ w0 w ad ln cp r W) (a : Bool) (b c : Int) (d : Bool) :
    ((((W.setCell ⟨w.heap.size, 0, none⟩ (.bool a)).setCell ⟨w.heap.size, 1, none⟩ (.int .u64 b)).setCell ⟨w.heap.size, 2, none⟩ (.int .u64 c)).setCell ⟨w.heap.size + 1, 0, none⟩ (.bool d)).heap[w.heap.size]? = some (.cells #[.bool a, .int .u64 b, .int .u64 c] 24 (0, 0)) ∧
    ((((W.setCell ⟨w.heap.size, 0, none⟩ (.bool a)).setCell ⟨w.heap.size, 1, none⟩ (.int .u64 b)).setCell ⟨w.heap.size, 2, none⟩ (.int .u64 c)).setCell ⟨w.heap.size + 1, 0, none⟩ (.bool d)).heap[w.heap.size + 1]? = some (.cells #[.bool d] 4 (0, 0)) :=
  ⟨blk_far (p := ⟨w.heap.size + 1, 0, none⟩) (blk_set (blk_set (blk_set h.box 0 (.bool a)) 1 (.int .u64 b)) 2 (.int .u64 c)) (by show w.heap.size ≠ w.heap.size + 1; omega) (.bool d),
   blk_set (blk_far (p := ⟨w.heap.size, 2, none⟩) (blk_far (p := ⟨w.heap.size, 1, none⟩) (blk_far (p := ⟨w.heap.size, 0, none⟩) h.ok (by show w.heap.size + 1 ≠ w.heap.size; omega) (.bool a)) (by show w.heap.size + 1 ≠ w.heap.size; omega) (.int .u64 b)) (by show w.heap.size + 1 ≠ w.heap.size; omega) (.int .u64 c)) 0 (.bool d)⟩
/-- The two boxes written, and read as results. -/
theorem BackQ.end_ {w0 w W : World} {ad : Addr} {ln cp : Nat} {r : List ByteArray} (h : BackQ w0 w ad ln cp r W) (tmps : Array Value) (a : Bool) (b c : Int) (d : Bool) (hp : tmps.getD 2 undef = .pointer (some ⟨w.heap.size, 0, none⟩)) (hq : tmps.getD 3 undef = .pointer (some ⟨w.heap.size + 1, 0, none⟩)) :
    (results Tryz.f77 tmps).run Tryz.prog ((((W.setCell ⟨w.heap.size, 0, none⟩ (.bool a)).setCell ⟨w.heap.size, 1, none⟩ (.int .u64 b)).setCell ⟨w.heap.size, 2, none⟩ (.int .u64 c)).setCell ⟨w.heap.size + 1, 0, none⟩ (.bool d)) = .ok (.tuple #[.agg #[.bool a, .int .u64 b, .int .u64 c], .bool d]) ((((W.setCell ⟨w.heap.size, 0, none⟩ (.bool a)).setCell ⟨w.heap.size, 1, none⟩ (.int .u64 b)).setCell ⟨w.heap.size, 2, none⟩ (.int .u64 c)).setCell ⟨w.heap.size + 1, 0, none⟩ (.bool d)) ∧
      Below w0.heap.size w0 ((((W.setCell ⟨w.heap.size, 0, none⟩ (.bool a)).setCell ⟨w.heap.size, 1, none⟩ (.int .u64 b)).setCell ⟨w.heap.size, 2, none⟩ (.int .u64 c)).setCell ⟨w.heap.size + 1, 0, none⟩ (.bool d)) := by
  have e := blk_far (p := ⟨w.heap.size + 1, 0, none⟩) (blk_set (blk_set (blk_set h.box 0 (.bool a)) 1 (.int .u64 b)) 2 (.int .u64 c)) (by show w.heap.size ≠ w.heap.size + 1; omega) (.bool d)
  have f := blk_set (blk_far (p := ⟨w.heap.size, 2, none⟩) (blk_far (p := ⟨w.heap.size, 1, none⟩) (blk_far (p := ⟨w.heap.size, 0, none⟩) h.ok (by show w.heap.size + 1 ≠ w.heap.size; omega) (.bool a)) (by show w.heap.size + 1 ≠ w.heap.size; omega) (.int .u64 b)) (by show w.heap.size + 1 ≠ w.heap.size; omega) (.int .u64 c)) 0 (.bool d)
  refine ⟨back_results tmps w.heap.size (w.heap.size + 1) a b c d _ hp hq (blk_cell e 0) (blk_cell e 1) (blk_cell e 2) (blk_cell f 0), ?_⟩
  have ho := h.old
  exact (((h.below.setCell (p := ⟨w.heap.size, 0, none⟩) ho _).setCell (p := ⟨w.heap.size, 1, none⟩) ho _).setCell (p := ⟨w.heap.size, 2, none⟩) ho _).setCell (p := ⟨w.heap.size + 1, 0, none⟩) (by show w0.heap.size ≤ w.heap.size + 1; omega) _
theorem rev_call (n : Nat) (l r : List ByteArray) (ad : Addr) (ln cp : Nat) (hl : l.length = ln) (w0 w : World) (hB : Below w0.heap.size w0 w) (hR : Kd.R Kd.string 9 w w0.heap.size (fun k => k < w.heap.size) (.slice (some ad) ln cp) l)
    (hrv : ∀ (W : World), Below w0.heap.size w0 W → Kd.R Kd.string 9 W w0.heap.size (fun k => k < w.heap.size) (.slice (some ad) ln cp) l → Calls Tryz.prog 109 #[.slice (some ad) ln cp] W fun e w' => e = .returned (.tuple #[]) ∧ Kd.R Kd.string 9 w' w0.heap.size (fun k => k < w.heap.size ∨ W.heap.size ≤ k) (.slice (some ad) ln cp) r ∧ Below w0.heap.size w0 w' ∧ Kept W w' (fun k => k < w.heap.size)) :
    CallsIn Fence.wide n Tryz.prog 109 #[.slice (some ad) ln cp] ((w.alloc (.cells #[.bool false, .int .u64 0, .int .u64 0] 24)).alloc (.cells #[.bool false] 4)) fun e W => e = .returned (.tuple #[]) ∧ BackQ w0 w ad ln cp r W := by
  have hs : w0.heap.size ≤ w.heap.size := hB.size
  have hb2 : Below w.heap.size w ((w.alloc (.cells #[.bool false, .int .u64 0, .int .u64 0] 24)).alloc (.cells #[.bool false] 4)) := ((Below.refl _ _).alloc (Nat.le_refl _) _).alloc (by simp) _
  have f1 : ((w.alloc (.cells #[.bool false, .int .u64 0, .int .u64 0] 24)).alloc (.cells #[.bool false] 4)).heap[w.heap.size + 1]? = some (.cells #[.bool false] 4 (0, 0)) := by
    have := World.alloc_heap_new (w.alloc (.cells #[.bool false, .int .u64 0, .int .u64 0] 24)) (.cells #[.bool false] 4)
    rw [World.size_alloc] at this
    exact this
  have f0 : ((w.alloc (.cells #[.bool false, .int .u64 0, .int .u64 0] 24)).alloc (.cells #[.bool false] 4)).heap[w.heap.size]? = some (.cells #[.bool false, .int .u64 0, .int .u64 0] 24 (0, 0)) := by
    rw [Below.heap_alloc _ _ _ (by simp)]
    exact World.alloc_heap_new w _
  have hz : ((w.alloc (.cells #[.bool false, .int .u64 0, .int .u64 0] 24)).alloc (.cells #[.bool false] 4)).heap.size = w.heap.size + 2 := by simp
  generalize (w.alloc (.cells #[.bool false, .int .u64 0, .int .u64 0] 24)).alloc (.cells #[.bool false] 4) = W2 at *
  refine callsIn_wide.2 ((hrv W2 (hB.trans (hb2.mono hs)) (Kd.R_below hR hb2)).mono ?_)
  rintro e W ⟨rfl, hR3, hb3, hk3⟩
  obtain ⟨A3, c3, e3, hl3, hC3⟩ := Kd.R_reads hR3
  simp only [Value.slice.injEq] at e3
  obtain ⟨rfl, q1, rfl⟩ := e3
  exact ⟨rfl, (hk3.2 _ (by omega) (by omega)).trans f0, (hk3.2 _ (by omega) (by omega)).trans f1, hC3, q1.symm, by omega, hb3, hs⟩

set_option maxRecDepth 100000 in
set_option maxHeartbeats 2000000 in
theorem back_six (n : Nat) (hn : 10 ≤ n) (r : List ByteArray) (ad : Addr) (cp : Nat) (w0 w : World)
    (hrv : CallsIn Fence.wide (n - 1) Tryz.prog 109 #[.slice (some ad) 6 cp] ((w.alloc (.cells #[.bool false, .int .u64 0, .int .u64 0] 24)).alloc (.cells #[.bool false] 4)) fun e W => e = .returned (.tuple #[]) ∧ BackQ w0 w ad 6 cp r W)
    (s : ByteArray) (hjn : ∀ (A : Option Addr) (c : Nat) (W : World), Kd.C Kd.string W A (r.drop 2).length (r.drop 2) → (r.drop 2).length ≤ c → Calls Tryz.prog 68 #[.slice A (r.drop 2).length c, .string ⟨#[46]⟩] W fun e w' => e = .returned (.string s) ∧ Below W.heap.size W w')
    (a : Bool) (b c : Int) (d : Bool) (hel : ∀ (W : World), Calls Tryz.prog 72 #[.string s] W fun e w' => e = .returned (.tuple #[.agg #[.bool a, .int .u64 b, .int .u64 c], .bool d]) ∧ Below W.heap.size W w') :
    CallsIn Fence.wide n Tryz.prog 77 #[.slice (some ad) 6 cp] w fun e w' => e = .returned (.tuple #[.agg #[.bool a, .int .u64 b, .int .u64 c], .bool d]) ∧ Below w0.heap.size w0 w' := by
  have h1 : 1 ≤ n := by omega
  have HRV := Aside0.mk hrv
  have HJN : Aside0 (∀ (W : World), BackQ w0 w ad 6 cp r W → CallsIn Fence.wide (n - 1) Tryz.prog 68 #[.slice (some ⟨ad.block, ad.off + 2, none⟩) 4 (cp - 2), .string ⟨#[46]⟩] W fun e w' => e = .returned (.string s) ∧ Below W.heap.size W w') := by
    refine ⟨fun W q => ?_⟩
    have hd : (r.drop 2).length = 4 := by rw [List.length_drop, q.len]
    have hc2 := q.cap
    have hC := Kd.C_drop (c := cp) q.row (m := 2) (by rw [q.len]; decide) (by rw [q.len]; exact hc2)
    rw [if_neg (by omega)] at hC
    have := hjn _ (cp - 2) W hC (by omega)
    rw [hd] at this
    exact callsIn_wide.2 this
  have HEL := Aside0.mk (fun W => (callsIn_wide (n := n - 1)).2 (hel W))
  clear hrv hjn hel
  refine callsIn_of_wp_marks Tryz.func77 rfl trivial ?_ rfl
  simp only [Tryz.ntmps77, List.size_toArray, List.length_cons, List.length_nil, Nat.reduceAdd, Nat.reduceSub, Array.replicate_succ, Array.replicate_zero, List.push_toArray, List.append_toArray, List.nil_append, List.cons_append]
  gi_wp2_with (first
    | (refine ⟨trivial, ?_⟩; gi_at_call 109; (with_reducible refine CallsIn.mono HRV.out ?_); rintro e w3 ⟨rfl, q3⟩; have Q3 := Aside0.mk q3; have k1 : (cp = 2) = False := eq_false (by have := q3.cap; omega); have k2 : (6 ≤ cp) = True := eq_true q3.cap; clear q3)
    | (refine ⟨trivial, ?_⟩; gi_at_call 68; (with_reducible refine CallsIn.mono (HJN.out _ Q3.out) ?_); rintro e w4 ⟨rfl, hb4⟩; have HB4 := Aside0.mk hb4; clear hb4)
    | (refine ⟨trivial, ?_⟩; gi_at_call 72; (with_reducible refine CallsIn.mono (HEL.out _) ?_); rintro e w5 ⟨rfl, hb5⟩; have q5 := (Q3.out.keep HB4.out).keep hb5; have Q5 := Aside0.mk q5; have z0 := cell_of_ q5.box 0; have z1 := cell_of_ q5.box 1; have z2 := cell_of_ q5.box 2; have z3 := cell_of_ q5.ok 0; have y0 := frozen_of_ q5.box 0; have y1 := frozen_of_ q5.box 1; have y2 := frozen_of_ q5.box 2; have y3 := frozen_of_ q5.ok 0; clear q5 hb5; simp only [List.getElem?_toArray, List.getElem?_cons_zero, List.getElem?_cons_succ] at z0 z1 z2 z3))
  have g2 := (Q5.out.end_ #[undef, undef, .pointer (some ⟨w.heap.size, 0, none⟩), .pointer (some ⟨w.heap.size + 1, 0, none⟩)] a b c d rfl rfl).2
  exact ⟨_, (Q5.out.end_ _ a b c d rfl rfl).1, rfl, g2⟩

set_option maxRecDepth 100000 in
set_option maxHeartbeats 2000000 in
theorem back_no (n : Nat) (hn : 10 ≤ n) (r : List ByteArray) (ad : Addr) (ln cp : Nat) (w0 w : World) (h6 : ln ≠ 6) (h34 : ln ≠ 34)
    (hrv : CallsIn Fence.wide (n - 1) Tryz.prog 109 #[.slice (some ad) ln cp] ((w.alloc (.cells #[.bool false, .int .u64 0, .int .u64 0] 24)).alloc (.cells #[.bool false] 4)) fun e W => e = .returned (.tuple #[]) ∧ BackQ w0 w ad ln cp r W) :
    CallsIn Fence.wide n Tryz.prog 77 #[.slice (some ad) ln cp] w fun e w' => e = .returned (.tuple #[.agg #[.bool false, .int .u64 0, .int .u64 0], .bool false]) ∧ Below w0.heap.size w0 w' := by
  have h1 : 1 ≤ n := by omega
  have HRV := Aside0.mk hrv
  have k1 : ((ln : Int) == 6) = false := beq_eq_false_iff_ne.2 (by omega)
  have k2 : ((ln : Int) == 34) = false := beq_eq_false_iff_ne.2 (by omega)
  clear hrv h6 h34
  refine callsIn_of_wp_marks Tryz.func77 rfl trivial ?_ rfl
  simp only [Tryz.ntmps77, List.size_toArray, List.length_cons, List.length_nil, Nat.reduceAdd, Nat.reduceSub, Array.replicate_succ, Array.replicate_zero, List.push_toArray, List.append_toArray, List.nil_append, List.cons_append]
  gi_wp2_with (refine ⟨trivial, ?_⟩; gi_at_call 109; (with_reducible refine CallsIn.mono HRV.out ?_); rintro e w5 ⟨rfl, q5⟩; have Q5 := Aside0.mk q5; have z0 := cell_of_ q5.box 0; have z1 := cell_of_ q5.box 1; have z2 := cell_of_ q5.box 2; have z3 := cell_of_ q5.ok 0; have y0 := frozen_of_ q5.box 0; have y1 := frozen_of_ q5.box 1; have y2 := frozen_of_ q5.box 2; have y3 := frozen_of_ q5.ok 0; clear q5; simp only [List.getElem?_toArray, List.getElem?_cons_zero, List.getElem?_cons_succ] at z0 z1 z2 z3)
  have g2 := (Q5.out.end_ #[undef, undef, .pointer (some ⟨w.heap.size, 0, none⟩), .pointer (some ⟨w.heap.size + 1, 0, none⟩)] false 0 0 false rfl rfl).2
  exact ⟨_, (Q5.out.end_ _ false 0 0 false rfl rfl).1, rfl, g2⟩

theorem own_readsU {W : World} {base e m : Nat} {v : Value} {xs : List Int} (h : W.ownsRow base e 1 v m (xs.map (Value.int .u16))) : ∃ A c, v = .slice A xs.length c ∧ xs.length ≤ c ∧ Kd.C (Kd.int .u16) W A xs.length xs := by
  have hm : m = xs.length := by
    have := h.1
    simpa using this.symm
  subst hm
  have hR : Kd.R (Kd.int .u16) e W base (fun _ => True) v xs := by
    refine ⟨fun _ _ => trivial, _, h, by simp [Kd.int, Kd.scalar], fun j p hp => ?_⟩
    have h2 : (xs.map (Value.int .u16))[j]? = some (.int .u16 p) := by rw [List.getElem?_map, hp]; rfl
    show List.take 1 (List.drop (j * 1) (xs.map (Value.int .u16))) = [Value.int .u16 p]
    rw [Nat.mul_one]
    have hj := (List.getElem?_eq_some_iff.1 h2).1
    rw [List.drop_eq_getElem_cons hj]
    rw [(List.getElem?_eq_some_iff.1 h2).2]
    rfl
  exact Kd.R_reads hR
theorem u16_wrR (x : Int) : IntKind.u16.wrap x = x % 65536 := by first | rfl | (simp [IntKind.wrap]; done) | (unfold IntKind.wrap; simp [IntKind.bits])
theorem info_u16R : (Tryz.prog.info? 93).map (fun i => (i.zero, i.size, i.bytes)) = some (some (.int .u16 0), 1, 2) := by kernel_rfl
theorem goB_at {jn : List ByteArray → ByteArray → Option ByteArray} {nm : ByteArray → Int → Int → Option (Int × Bool)} {r : List ByteArray} : ∀ {m : Nat} {vs : List Int}, goB jn nm r m = some vs → vs.length = m ∧ ∀ i < m, ∃ s q, jn (grpL r i) ⟨#[]⟩ = some s ∧ nm s 4 16 = some (q, true) ∧ vs.getD i 0 = q % 65536
  | 0, vs, h => by
    cases h
    exact ⟨rfl, fun i hi => absurd hi (by omega)⟩
  | m + 1, vs, h => by
    unfold goB at h
    obtain ⟨acc, ha, h⟩ := Option.bind_eq_some_iff.1 h
    obtain ⟨s, hs, h⟩ := Option.bind_eq_some_iff.1 h
    obtain ⟨⟨q, b⟩, hq, h⟩ := Option.bind_eq_some_iff.1 h
    obtain ⟨hl, hi⟩ := goB_at ha
    cases b with
    | false => rw [if_neg (show ¬ ((q, false).2 = true) by simp)] at h; cases h
    | true =>
      rw [if_pos rfl] at h
      obtain rfl := Option.some.inj h
      refine ⟨by rw [List.length_append, hl]; rfl, fun i hlt => ?_⟩
      by_cases e : i = m
      · subst e
        exact ⟨s, q, hs, hq, by rw [List.getD_eq_getElem?_getD, List.getElem?_append_right (by omega), hl]; simp⟩
      · obtain ⟨s', q', h1, h2, h3⟩ := hi i (by omega)
        exact ⟨s', q', h1, h2, by rw [List.getD_eq_getElem?_getD, List.getElem?_append_left (by omega), ← List.getD_eq_getElem?_getD]; exact h3⟩
/-- A group's labels, where they lie. -/
theorem grpL_C {W : World} {ad : Addr} {cp : Nat} {r : List ByteArray} (h : Kd.C Kd.string W (some ad) r.length r) (h34 : r.length = 34) (hc : 34 ≤ cp) (i : Nat) (hi : i < 8) : Kd.C Kd.string W (some ((⟨ad.block, ad.off + 2, none⟩ : Addr).add (4 * i))) 4 (grpL r i) ∧ (grpL r i).length = 4 := by
  have h1 := Kd.C_drop (c := cp) h (m := 2) (by omega) (by omega)
  rw [if_neg (by omega)] at h1
  have e1 : (r.drop 2).length = 32 := by rw [List.length_drop, h34]
  have h2 := Kd.C_drop (c := 1000) h1 (m := 4 * i) (by rw [e1]; omega) (by rw [e1]; decide)
  rw [if_neg (by omega)] at h2
  have h3 := Kd.C_take h2 (m := 4) (by rw [List.length_drop, e1]; omega)
  have e3 : (grpL r i).length = 4 := by
    unfold grpL
    rw [List.length_take, List.length_drop, e1]
    omega
  have e4 : (grpL r i).length = (((r.drop 2).drop (4 * i)).take 4).length := rfl
  rw [← e4, e3] at h3
  refine ⟨?_, e3⟩
  have e5 : Option.map (fun x : Addr => x.add (4 * i * Kd.string.sz)) (Option.map (fun x : Addr => x.add (2 * Kd.string.sz)) (some ad)) = some ((⟨ad.block, ad.off + 2, none⟩ : Addr).add (4 * i)) := by
    show some ((ad.add 2).add (4 * i * 1)) = _
    rw [Nat.mul_one]
    rfl
  rw [e5] at h3
  exact h3

set_option maxRecDepth 100000 in
set_option maxHeartbeats 2000000 in
theorem back_long (n : Nat) (hn : 10 ≤ n) (r : List ByteArray) (ad : Addr) (cp : Nat) (w0 w : World) (vs : List Int)
    (hrv : CallsIn Fence.wide (n - 1) Tryz.prog 109 #[.slice (some ad) 34 cp] ((w.alloc (.cells #[.bool false, .int .u64 0, .int .u64 0] 24)).alloc (.cells #[.bool false] 4)) fun e W => e = .returned (.tuple #[]) ∧ BackQ w0 w ad 34 cp r W)
    (hgr : ∀ i < 8, ∃ s q, (∀ (A : Option Addr) (c : Nat) (W : World), Kd.C Kd.string W A (grpL r i).length (grpL r i) → (grpL r i).length ≤ c → Calls Tryz.prog 68 #[.slice A (grpL r i).length c, .string ⟨#[]⟩] W fun e w' => e = .returned (.string s) ∧ Below W.heap.size W w') ∧ (∀ W, Calls Tryz.prog 105 #[.string s, .int .i64 4, .int .i64 16] W fun e w' => e = .returned (.tuple #[.int .i64 q, .bool true]) ∧ Below W.heap.size W w') ∧ vs.getD i 0 = q % 65536)
    (hvs : vs.length = 8) (a : Bool) (b c : Int) (hof : ∀ (A : Option Addr) (k : Nat) (W : World), Kd.C (Kd.int .u16) W A vs.length vs → vs.length ≤ k → Calls Tryz.prog 75 #[.slice A vs.length k] W fun e w' => e = .returned (.agg #[.bool a, .int .u64 b, .int .u64 c]) ∧ Below W.heap.size W w') :
    CallsIn Fence.wide n Tryz.prog 77 #[.slice (some ad) 34 cp] w fun e w' => e = .returned (.tuple #[.agg #[.bool a, .int .u64 b, .int .u64 c], .bool true]) ∧ Below w0.heap.size w0 w' := by
  have h1 : 1 ≤ n := by omega
  have HRV := Aside0.mk hrv
  have HGR := Aside0.mk hgr
  have HOF := Aside0.mk (fun A k W h1 h2 => (callsIn_wide (n := n - 1)).2 (hof A k W h1 h2))
  have HVS := Aside0.mk hvs
  have HCH := Aside0.mk (fun (A : Option Addr) (ln c : Nat) (W : World) => chunk_calls (n - 1) A ln c W)
  clear hrv hgr hof hvs
  refine callsIn_of_wp_marks Tryz.func77 rfl trivial ?_ rfl
  simp only [Tryz.ntmps77, List.size_toArray, List.length_cons, List.length_nil, Nat.reduceAdd, Nat.reduceSub, Array.replicate_succ, Array.replicate_zero, List.push_toArray, List.append_toArray, List.nil_append, List.cons_append]
  gi_wp2_with (first
    | (refine ⟨trivial, ?_⟩; gi_at_call 109; (with_reducible refine CallsIn.mono HRV.out ?_); rintro e w3 ⟨rfl, q3⟩; have Q3 := Aside0.mk q3; have k1 : (cp = 2) = False := eq_false (by have := q3.cap; omega); have k2 : (34 ≤ cp) = True := eq_true q3.cap; clear q3)
    | (refine ⟨trivial, ?_⟩; gi_at_call 110; (with_reducible refine CallsIn.mono (HCH.out _ _ _ _) ?_); rintro e w4 ⟨rfl, rfl⟩))
  rw [show w3.heap.size + 1 + 1 = w3.heap.size + 2 from rfl]
  have hbW : Below w3.heap.size w3 (((w3.alloc (.cells #[.slice none 0 0] 99)).alloc (.cells #[.slice (some ⟨ad.block, ad.off + 2, none⟩) 32 (cp - 2)] 58)).alloc (.cells #[.int .i64 4] 3)) := (((Below.refl _ _).alloc (Nat.le_refl _) _).alloc (by simp) _).alloc (by simp; omega) _
  have f0 := ((Boxed.new w3 99 (.slice none 0 0)).alloc (.cells #[.slice (some ⟨ad.block, ad.off + 2, none⟩) 32 (cp - 2)] 58)).alloc (.cells #[.int .i64 4] 3)
  have f1 := (Boxed.new (w3.alloc (.cells #[.slice none 0 0] 99)) 58 (.slice (some ⟨ad.block, ad.off + 2, none⟩) 32 (cp - 2))).alloc (.cells #[.int .i64 4] 3)
  have f2 := Boxed.new ((w3.alloc (.cells #[.slice none 0 0] 99)).alloc (.cells #[.slice (some ⟨ad.block, ad.off + 2, none⟩) 32 (cp - 2)] 58)) 3 (.int .i64 4)
  rw [World.size_alloc] at f1
  rw [World.size_alloc, World.size_alloc] at f2
  have hsz : (((w3.alloc (.cells #[.slice none 0 0] 99)).alloc (.cells #[.slice (some ⟨ad.block, ad.off + 2, none⟩) 32 (cp - 2)] 58)).alloc (.cells #[.int .i64 4] 3)).heap.size = w3.heap.size + 3 := by simp
  generalize ((w3.alloc (.cells #[.slice none 0 0] 99)).alloc (.cells #[.slice (some ⟨ad.block, ad.off + 2, none⟩) 32 (cp - 2)] 58)).alloc (.cells #[.int .i64 4] 3) = W1 at *
  have hseq := chunk1_stops (n - 1) (by omega) (w3.heap.size + 1) 8 (cp - 2) ⟨ad.block, ad.off + 2, none⟩ (by decide) (by have := Q3.out.cap; omega) W1 ⟨f1.cell, f2.cell⟩ (by omega)
  obtain ⟨ga, hga⟩ : ∃ ga : Nat → Addr, ∀ x, (⟨ad.block, ad.off + 2, none⟩ : Addr).add (4 * x) = ga x := ⟨_, fun _ => rfl⟩
  simp only [hga] at hseq
  have HGA := Aside0.mk hga
  have HSZ := Aside0.mk hsz
  have HBW := Aside0.mk hbW
  clear HRV HCH hsz hbW hga
  obtain ⟨i0, hi0, hz0, hz1, hz2⟩ := info_parts info_u16R
  refine wpIn_rangeFunc_ownG rfl h1 (gf := 127) (lb := #[.pointer (some ⟨w3.heap.size + 1, 0, none⟩), .pointer (some ⟨w3.heap.size + 2, 0, none⟩)]) rfl trivial (enters_of Tryz.func127 (by kernel_rfl) rfl) hseq (fun a b => a.trans b)
    (fun W l o o' hl _ _ _ => ⟨by simp, fun q hq => by rw [World.putObj_heap_other (fun e => by have := HSZ.out; omega)]; exact hq, fun q hq => by rw [World.putObj_heap_other (fun e => by have := HSZ.out; omega)]; exact hq⟩) (Below.refl _ _) (fun _ => rfl)
    (fun pre W => (∃ v, Boxed W w3.heap.size 99 v ∧ W.ownsRow w3.heap.size 93 1 v pre.length (pre.map fun z => Value.int .u16 (vs.getD z.val 0)) ∧ True) ∧ Boxed W (w3.heap.size + 1) 58 (.slice (some ⟨ad.block, ad.off + 2, none⟩) 32 (cp - 2)) ∧ Boxed W (w3.heap.size + 2) 3 (.int .i64 4) ∧ Below w3.heap.size w3 W)
    (fun _ _ _ => False)
    (OwnFrom.and (Own.from (holdsRow_own w3.heap.size w3.heap.size 99 93 1 (fun pre : List {x : Nat // x < 8} => pre.length) (fun pre : List {x : Nat // x < 8} => pre.map fun z => Value.int .u16 (vs.getD z.val 0)) (fun _ _ => True)) _) (OwnFrom.and (Own.from (boxed_own _ _ _) _) (OwnFrom.and (Own.from (boxed_own _ _ _) _) (ownFrom_below (Nat.le_refl _) (by have := HSZ.out; omega)))))
    (fun _ _ _ _ _ hs _ _ => hs)
    ⟨⟨_, f0, World.ownsRow_nil _ _ _ _, trivial⟩, f1, f2, HBW.out⟩
    (fun z => { tmps := #[.slice (some ad) 34 cp, undef, .pointer (some ⟨w.heap.size, 0, none⟩), .pointer (some ⟨w.heap.size + 1, 0, none⟩), .pointer (some ⟨w3.heap.size, 0, none⟩), .slice (some (ga z.val)) 4 4, undef, undef, .slice (some ad) 34 cp, .tuple #[], .slice (some ad) 34 cp, .int .i64 34, .bool false, .bool false, undef, undef, undef, undef, undef, undef, .bool true, .bool true, .slice (some ad) 34 cp, .slice (some ⟨ad.block, ad.off + 2, none⟩) 32 (cp - 2), .func (.func 127) #[] #[.pointer (some ⟨w3.heap.size + 1, 0, none⟩), .pointer (some ⟨w3.heap.size + 2, 0, none⟩)], .slice (some (ga z.val)) 4 4, undef, undef, undef, undef, undef, undef, undef, undef, undef, undef, undef, undef, undef, undef, undef, undef, undef], defers := [] }) ?assign ?body ?done ?stop
  case assign =>
    intro l z W K hK
    gi_wp2
    exact hK
  case body =>
    rintro l pre ⟨i, hi⟩ W ⟨⟨v, hv, hrow, _⟩, g1, g2, hB⟩ hlt
    obtain ⟨s, q, e1, e2, e3⟩ := HGR.out i hi
    have hqC := grpL_C (Kd.C_below Q3.out.row hB) Q3.out.len Q3.out.cap i hi
    rw [HGA.out] at hqC
    have HJN : Aside0 (CallsIn Fence.wide (n - 1 - 1 - 1) Tryz.prog 68 #[.slice (some (ga i)) 4 4, .string ⟨#[]⟩] W fun e w' => e = .returned (.string s) ∧ Below W.heap.size W w') := by
      refine ⟨callsIn_wide.2 ?_⟩
      have := e1 (some (ga i)) 4 W (by rw [hqC.2]; exact hqC.1) (by rw [hqC.2]; exact Nat.le_refl _)
      rw [hqC.2] at this
      exact this
    have HNM := Aside0.mk (fun W => (callsIn_wide (n := n - 1 - 1 - 1)).2 (e2 W))
    have E3 := Aside0.mk e3
    have HV := Aside0.mk hv
    have HROW := Aside0.mk hrow
    have G1 := Aside0.mk g1
    have G2 := Aside0.mk g2
    have HB := Aside0.mk hB
    have HLT := Aside0.mk hlt
    clear e1 e2 e3 hqC hv hrow g1 g2 hB hlt
    dsimp only
    generalize ga i = adi at *
    gi_wp2_with (first
      | (refine ⟨trivial, fun hd => by simp [Fence.wide] at hd, ?_⟩; gi_at_call 68; (with_reducible refine CallsIn.mono (RoundRegion.callsIn_round ((callsIn_wide (n := n - 1 - 1 - 1)).1 HJN.out)) ?_); rintro e w5 ⟨rfl, hb5⟩; have HB5 := Aside0.mk hb5; clear hb5)
      | (refine ⟨trivial, fun hd => by simp [Fence.wide] at hd, ?_⟩; gi_at_call 105; (with_reducible refine CallsIn.mono (RoundRegion.callsIn_round ((callsIn_wide (n := n - 1 - 1 - 1)).1 (HNM.out _))) ?_); rintro e w6 ⟨rfl, hb6⟩; have HB6 : Aside0 (Below W.heap.size W w6) := ⟨HB5.out.trans (hb6.mono HB5.out.size)⟩; have hv6 : Boxed w6 w3.heap.size 99 v := (HB6.out.block _ HV.out.lt).trans HV.out; have HV6 := Aside0.mk hv6; have Own6 := Aside0.mk (HROW.out.kept (grown_of_below HB6.out none) (Classical.em _)); have hc6 := hv6.cell; have hf6 := hv6.frozen; clear hb6 hv6)
      | (gi_at_builtin; refine wpListIn_append_own _ rfl _ _ 99 rfl w3.heap.size 93 i0 (.int .u16 0) 1 2 Tryz.underlying99 hi0 hz0 hz1 hz2 rfl (by decide) _ _ _ rfl ((Own6.out).alloc _) ⟨w6.heap.size, 0, none⟩ 1 1 [.int .u16 (IntKind.u16.wrap q)] rfl rfl (cells_new _ [.int .u16 (IntKind.u16.wrap q)] _) (by simp [Value.oneCell']) (by have := HLT.out; unfold maxLen; omega) (by have := HLT.out; omega) (by have := HB.out.size; have := HB6.out.size; simp; omega) ?_; intro v' w7 hown' hgrow _; obtain ⟨g', cap', rfl⟩ := ownsRow_succ hown'; obtain ⟨hv1, hv2, hr2, hk2, hb2⟩ := HV6.out.appended (by decide) Own6.out (Nat.le_trans HB.out.size HB6.out.size) (Nat.le_refl _) hown' hgrow; have hc7 := hv1.cell; have hf7 := hv1.frozen; have HGW := Aside0.mk (show (w6.alloc (.cells #[.int .u16 (IntKind.u16.wrap q)] 93)).grownBy w7 v.ownBlock from hgrow); have HV2 := Aside0.mk hv2; have HR2 := Aside0.mk hr2; have HK2 := Aside0.mk hk2; have HB2 := Aside0.mk hb2; clear hv1 hv2 hr2 hk2 hb2 hgrow hown'))
    have c1 : Boxed w6 (w3.heap.size + 1) 58 (.slice (some ⟨ad.block, ad.off + 2, none⟩) 32 (cp - 2)) := (HB6.out.block _ G1.out.lt).trans G1.out
    have c2 : Boxed w6 (w3.heap.size + 2) 3 (.int .i64 4) := (HB6.out.block _ G2.out.lt).trans G2.out
    have d1 := ((c1.alloc (.cells #[.int .u16 (IntKind.u16.wrap q)] 93)).kept HGW.out (c1.not_row (by decide) Own6.out)).other (B' := w3.heap.size) (by omega) (.slice (some ⟨g', 0, none⟩) (pre.length + 1) cap')
    have d2 := ((c2.alloc (.cells #[.int .u16 (IntKind.u16.wrap q)] 93)).kept HGW.out (c2.not_row (by decide) Own6.out)).other (B' := w3.heap.size) (by omega) (.slice (some ⟨g', 0, none⟩) (pre.length + 1) cap')
    refine ⟨(KeepsFrom.of_grownBy (grown_of_below HB6.out none) (fun j e => by cases e)).trans (HK2.out.from _), ⟨Nat.le_trans HB6.out.size HK2.out.size, fun o ho => ?_, fun o ho => ?_⟩, ⟨_, HV2.out, ?_, trivial⟩, d1, d2, HB.out.trans ((HB6.out.mono HB.out.size).trans HB2.out)⟩
    · rw [show W.heap[w3.heap.size + 1]? = _ from G1.out] at ho
      rw [← ho]
      exact d1
    · rw [show W.heap[w3.heap.size + 1 + 1]? = _ from G2.out] at ho
      rw [← ho]
      exact d2
    · rw [List.length_append, List.map_append]
      show World.ownsRow _ _ _ _ _ (pre.length + 1) (_ ++ [Value.int .u16 (vs.getD i 0)])
      rw [E3.out, ← u16_wrR]
      exact HR2.out
  case done =>
    rintro D ys W hD hys ⟨⟨v, hv, hrow, _⟩, g1, g2, hB⟩ hK
    have hl : ys.length = vs.length := by
      have := congrArg List.length hys
      rw [List.length_map, List.length_range] at this
      rw [this, HVS.out]
    have hm : (ys.map fun z => Value.int .u16 (vs.getD z.val 0)) = vs.map (Value.int .u16) := by
      have e : (ys.map fun z => Value.int .u16 (vs.getD z.val 0)) = (ys.map Subtype.val).map fun i => Value.int .u16 (vs.getD i 0) := by rw [List.map_map]; rfl
      rw [e, hys]
      refine List.ext_getElem? fun j => ?_
      rw [List.getElem?_map, List.getElem?_map]
      have h8 := HVS.out
      by_cases hj : j < 8
      · rw [List.getElem?_eq_getElem (by simpa using hj), List.getElem?_eq_getElem (show j < vs.length by omega)]
        simp [List.getD, show j < vs.length by omega]
      · rw [List.getElem?_eq_none (by simp; omega), List.getElem?_eq_none (by omega)]
        rfl
    rw [hm, hl] at hrow
    obtain ⟨A, k, rfl, hk, hC⟩ := own_readsU hrow
    have hbc := hv.cell
    have hq := Q3.out.keep hB
    have HQ := Aside0.mk hq
    have HO2 := Aside0.mk (HOF.out A k W hC hk)
    have HK := Aside0.mk hK
    have HD : Aside0 (w3.heap.size + 3 ≤ D) := ⟨by have := HSZ.out; omega⟩
    clear hys hl hm hrow hk hC hv g1 g2 hB hK hq hD hseq
    generalize vs.length = vl at *
    gi_wp2_with (refine ⟨trivial, ?_⟩; gi_at_call 75; (with_reducible refine CallsIn.mono HO2.out ?_); rintro e w8 ⟨rfl, hb8⟩; have hk8 : w8.heap[D]? = some (.deferred (some [])) := (hb8.block D (Array.getElem?_eq_some_iff.1 HK.out).1).trans HK.out; have HK8 := Aside0.mk hk8; have q5 := HQ.out.keep hb8; have Q5 := Aside0.mk q5; have z0 := cell_of_ q5.box 0; have z1 := cell_of_ q5.box 1; have z2 := cell_of_ q5.box 2; have z3 := cell_of_ q5.ok 0; have y0 := frozen_of_ q5.box 0; have y1 := frozen_of_ q5.box 1; have y2 := frozen_of_ q5.box 2; have y3 := frozen_of_ q5.ok 0; clear q5 hb8 hk8; simp only [List.getElem?_toArray, List.getElem?_cons_zero, List.getElem?_cons_succ] at z0 z1 z2 z3)
    have hP : w.heap.size + 1 < w3.heap.size := blk_lt Q3.out.ok
    have hD := HD.out
    have hK' : ((((w8.setCell ⟨w.heap.size, 0, none⟩ (.bool a)).setCell ⟨w.heap.size, 1, none⟩ (.int .u64 b)).setCell ⟨w.heap.size, 2, none⟩ (.int .u64 c)).setCell ⟨w.heap.size + 1, 0, none⟩ (.bool true)).heap[D]? = some (.deferred (some [])) := by
      rw [Below.heap_setCell _ _ _ _ (by simp only; omega), Below.heap_setCell _ _ _ _ (by simp only; omega), Below.heap_setCell _ _ _ _ (by simp only; omega), Below.heap_setCell _ _ _ _ (by simp only; omega)]
      exact HK8.out
    refine ⟨by simp, .inl ⟨_, _, rfl, run_takeDeferred hK', ?_⟩⟩
    obtain ⟨e, f⟩ := Q5.out.ends a b c true
    have g2 := (Q5.out.end_ #[undef, undef, .pointer (some ⟨w.heap.size, 0, none⟩), .pointer (some ⟨w.heap.size + 1, 0, none⟩)] a b c true rfl rfl).2
    have e' := (World.putObj_heap_other (o := .deferred none) (show w.heap.size ≠ D by omega)).trans e
    have f' := (World.putObj_heap_other (o := .deferred none) (show w.heap.size + 1 ≠ D by omega)).trans f
    exact ⟨_, back_results _ w.heap.size (w.heap.size + 1) a b c true _ rfl rfl (blk_cell e' 0) (blk_cell e' 1) (blk_cell e' 2) (blk_cell f' 0), rfl, g2.trans (belowK_b (w := w) Q3.out.old _ D _ _ (by omega) hK' rfl rfl)⟩
  case stop =>
    rintro D c pre W _ _ h _
    exact h.elim
/-- addr.back, whatever row of its caller's own. -/
theorem back_all (rv : List ByteArray → Option (List ByteArray)) (jn : List ByteArray → ByteArray → Option ByteArray) (el : ByteArray → Option (Bool × Int × Int × Bool)) (nm : ByteArray → Int → Int → Option (Int × Bool)) (of : List Int → Option (Bool × Int × Int))
    (hrv : ∀ (P : Nat → Prop) (u : Value) (l r : List ByteArray) (w0 w : World), Below w0.heap.size w0 w → Kd.R Kd.string 9 w w0.heap.size P u l → rv l = some r → Calls Tryz.prog 109 #[u] w fun e w' => e = .returned (.tuple #[]) ∧ Kd.R Kd.string 9 w' w0.heap.size (fun k => P k ∨ w.heap.size ≤ k) u r ∧ Below w0.heap.size w0 w' ∧ Kept w w' (fun k => P k))
    (hjn : ∀ (A : Option Addr) (c : Nat) (l : List ByteArray) (s t : ByteArray) (W : World), Kd.C Kd.string W A l.length l → l.length ≤ c → jn l s = some t → Calls Tryz.prog 68 #[.slice A l.length c, .string s] W fun e w' => e = .returned (.string t) ∧ Below W.heap.size W w')
    (hel : ∀ (s : ByteArray) (a : Bool) (b c : Int) (d : Bool) (W : World), el s = some (a, b, c, d) → Calls Tryz.prog 72 #[.string s] W fun e w' => e = .returned (.tuple #[.agg #[.bool a, .int .u64 b, .int .u64 c], .bool d]) ∧ Below W.heap.size W w')
    (hnm : ∀ (s : ByteArray) (m B q : Int) (b : Bool) (W : World), nm s m B = some (q, b) → Calls Tryz.prog 105 #[.string s, .int .i64 m, .int .i64 B] W fun e w' => e = .returned (.tuple #[.int .i64 q, .bool b]) ∧ Below W.heap.size W w')
    (hof : ∀ (A : Option Addr) (k : Nat) (l : List Int) (a : Bool) (b c : Int) (W : World), Kd.C (Kd.int .u16) W A l.length l → l.length ≤ k → of l = some (a, b, c) → Calls Tryz.prog 75 #[.slice A l.length k] W fun e w' => e = .returned (.agg #[.bool a, .int .u64 b, .int .u64 c]) ∧ Below W.heap.size W w')
    (l : List ByteArray) (a : Bool) (b c : Int) (d : Bool) (h : backF rv jn el nm of l = some (a, b, c, d)) (u : Value) (w0 w : World) (hB : Below w0.heap.size w0 w) (hR : Kd.R Kd.string 9 w w0.heap.size (fun _ => True) u l) :
    Calls Tryz.prog 77 #[u] w fun e w' => e = .returned (.tuple #[.agg #[.bool a, .int .u64 b, .int .u64 c], .bool d]) ∧ Below w0.heap.size w0 w' := by
  unfold backF at h
  by_cases hl : l = []
  · rw [if_pos hl] at h; cases h
  rw [if_neg hl] at h
  obtain ⟨r, hr, h⟩ := Option.bind_eq_some_iff.1 h
  have hR2 : Kd.R Kd.string 9 w w0.heap.size (fun k => k < w.heap.size) u l := Kd.R_mono (Kd.R_bound hR) (fun k hk => hk.2.2.1)
  obtain ⟨A, cp, rfl, hcp, hC⟩ := Kd.R_reads hR2
  obtain ⟨ad, rfl, _⟩ := hC.2.2 (List.length_pos_iff.2 hl)
  have hrc := rev_call 9 l r ad l.length cp rfl w0 w hB hR2 (fun W hb hr2 => hrv _ _ l r w0 W hb hr2 hr)
  refine (callsIn_wide (n := 10)).1 ?_
  by_cases h6 : l.length = 6
  · rw [if_pos h6] at h
    obtain ⟨s, hs, h⟩ := Option.bind_eq_some_iff.1 h
    rw [h6] at hrc ⊢
    exact back_six 10 (by omega) r ad cp w0 w hrc s (fun A c W h1 h2 => hjn A c (r.drop 2) ⟨#[46]⟩ s W h1 h2 hs) a b c d (fun W => hel s a b c d W h)
  rw [if_neg h6] at h
  by_cases h34 : l.length = 34
  · rw [if_pos h34] at h
    obtain ⟨vs, hg, h⟩ := Option.bind_eq_some_iff.1 h
    obtain ⟨⟨x, y, z⟩, ho, h⟩ := Option.bind_eq_some_iff.1 h
    obtain ⟨hv, hi⟩ := goB_at hg
    simp only [Option.some.injEq, Prod.mk.injEq] at h
    obtain ⟨rfl, rfl, rfl, rfl⟩ := h
    rw [h34] at hrc ⊢
    refine back_long 10 (by omega) r ad cp w0 w vs hrc (fun i h8 => ?_) hv x y z (fun A k W h1 h2 => hof A k vs x y z W h1 h2 ho)
    obtain ⟨s, q, e1, e2, e3⟩ := hi i h8
    exact ⟨s, q, fun A c W h1 h2 => hjn A c (grpL r i) ⟨#[]⟩ s W h1 h2 e1, fun W => hnm s 4 16 q true W e2, e3⟩
  · rw [if_neg h34] at h
    simp only [Option.some.injEq, Prod.mk.injEq] at h
    obtain ⟨rfl, rfl, rfl, rfl⟩ := h
    exact back_no 10 (by omega) r ad l.length cp w0 w h6 h34 hrc
end
end Go.Proofs.YtilobbjnmnnmnaaGreatDoor.AddrLib
