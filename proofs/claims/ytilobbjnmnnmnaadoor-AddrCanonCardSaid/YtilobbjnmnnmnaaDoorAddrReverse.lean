/- An address's name in the other direction: addr.Reverse. -/
import Derived.Test.YtilobbjnmnnmnaaDoorAddrBackward
import Derived.Lib.ConvBytes
set_option linter.unusedSimpArgs false
set_option linter.unusedVariables false
namespace Go.Proofs.YtilobbjnmnnmnaaDoor.AddrLib
open Go.RowKit Go.Lib Go.Proofs.YtilobbjnmnnmnaaDoorW.PrintWords Go.Proofs.YtilobbjnmnnmnaaDoorW.PrintLast Go.Proofs.YtilobbjnmnnmnaaDoorW.PrintMore

section
open Go.Shelf
attribute [local go_sem] Oper.semAt_some
def hexDig : ByteArray := ⟨#[48, 49, 50, 51, 52, 53, 54, 55, 56, 57, 97, 98, 99, 100, 101, 102]⟩
def hexS (d : Int) : ByteArray := hexDig.extract d.toNat (d + 1).toNat
def revOne (six : Bool) (b : Int) : List ByteArray := if six then [hexS (b % 16), hexS (b / 16)] else [mkB (Lib.itoa b)]
def revs (six : Bool) (l : List (Int × Int)) : List ByteArray := l.flatMap fun x => revOne six x.2
def tailS (six : Bool) : List ByteArray := if six then [⟨#[105, 112, 54]⟩, ⟨#[97, 114, 112, 97]⟩] else [⟨#[105, 110, 45, 97, 100, 100, 114]⟩, ⟨#[97, 114, 112, 97]⟩]
def numsB (o : ByteArray) : List Int := o.data.toList.map fun b => (b.toNat : Int)
def revRow (six : Bool) (o : ByteArray) : List ByteArray := revs six (seqB (numsB o) 0) ++ tailS six
def reverseF (oct : Bool → Int → Int → Option (ByteArray × Int)) (make : List ByteArray → Option (ByteArray × Int)) (six : Bool) (hi lo : Int) : Option (ByteArray × Int) :=
  (oct six hi lo).bind fun p => if p.2 = 0 then (if p.1.size ≤ 100 then make (revRow six p.1) else none) else some (⟨#[]⟩, p.2)

theorem R_str {e base : Nat} {W : World} {ok : Nat → Prop} {v : Value} {xs : List ByteArray} (h : Kd.R Kd.string e W base ok v xs) : W.ownsRow base e 1 v xs.length (xs.map Value.string) := by
  obtain ⟨_, inner, ho, hl, hr⟩ := h
  have : inner = xs.map Value.string := by
    refine List.ext_getElem? fun j => ?_
    rw [List.getElem?_map]
    have hl' : inner.length = xs.length := by rw [hl]; exact Nat.mul_one _
    cases hx : xs[j]? with
    | none => rw [List.getElem?_eq_none (by rw [hl']; exact List.getElem?_eq_none_iff.1 hx)]; rfl
    | some x =>
      have h2 : List.take 1 (List.drop (j * 1) inner) = [Value.string x] := hr j x hx
      rw [Nat.mul_one] at h2
      have h3 : (List.take 1 (List.drop j inner))[0]? = some (Value.string x) := by rw [h2]; rfl
      rw [List.getElem?_take_of_lt (by decide), List.getElem?_drop] at h3
      simpa using h3
  rw [← this]
  exact ho
def okR (L : Nat) : Nat → Prop := fun k => k ≠ L ∧ k ≠ L + 1 ∧ k ≠ L + 2
structure RevJ (w4 : World) (L : Nat) (six : Bool) (v : Value) (pre : List (Int × Int)) (W : World) : Prop where
  box : Boxed W L 63 v
  row : Kd.R Kd.string 9 W L (okR L) v (revs six pre)
  below : Below L w4 W
  big : L + 3 ≤ W.heap.size
theorem RevJ_own {α : Type} (f : List α → List (Int × Int)) (w4 : World) (L : Nat) (six : Bool) : OwnFrom (L + 3) (fun (pre : List α) W => ∃ v, RevJ w4 L six v (f pre) W) := by
  rintro pre W W' row ⟨v, h⟩ hg hr
  have hne : ∀ k, (∃ cells q, W.heap[k]? = some (.cells cells q (0, 0))) → some k ≠ row := by
    rintro k ⟨cells, q, hk⟩ e
    obtain ⟨_, o, ho, hc⟩ := hr k e.symm
    rw [hk] at ho; cases ho; cases hc
  refine ⟨v, (hg.block L h.box.lt (hne L ⟨_, _, h.box⟩)).trans h.box, Kd.R_mono (Kd.R_grown (Kd.R_bound h.row) hg (fun k hk => hne k (by obtain ⟨_, _, _, q, _, cells, hc⟩ := hk; exact ⟨cells, q, hc⟩))) (fun k hk => hk.1), ?_, Nat.le_trans h.big hg.size⟩
  exact h.below.grown hg (Nat.le_trans (by omega) h.big) (fun j ej => by have := (hr j ej).1; omega)
/-- What the box's slice is, behind an append: the store that follows, and all that a round owes. -/
theorem RevJ.store {w4 W W2 w1 : World} {L : Nat} {six : Bool} {v v1 : Value} {pre : List (Int × Int)} {z : Int × Int} (h : RevJ w4 L six v pre W) (hW2 : Below W.heap.size W W2)
    (hR : Kd.R Kd.string 9 w1 L (okR L) v1 (revs six pre ++ revOne six z.2)) (hb : Below L w4 w1) (hg : W2.grownBy w1 v.ownBlock) :
    Boxed w1 L 63 v ∧ RevJ w4 L six v1 (pre ++ [z]) (w1.setCell ⟨L, 0, none⟩ v1) ∧ BackK (L + 2) (L + 1) W (w1.setCell ⟨L, 0, none⟩ v1) ∧ KeepsFrom (L + 3) W (w1.setCell ⟨L, 0, none⟩ v1) := by
  have hv : v.ownBlock ≠ some L ∧ v.ownBlock ≠ some (L + 1) ∧ v.ownBlock ≠ some (L + 2) := ⟨fun e => (h.row.1 _ e).1 rfl, fun e => (h.row.1 _ e).2.1 rfl, fun e => (h.row.1 _ e).2.2 rfl⟩
  have hl : L + 3 ≤ W.heap.size := h.big
  have hl2 : L + 3 ≤ W2.heap.size := Nat.le_trans hl hW2.size
  have hbox : Boxed w1 L 63 v := (hg.block L (by omega) hv.1.symm).trans ((hW2.block L (by omega)).trans h.box)
  have hoth : ∀ k, k < W.heap.size → k ≠ L → some k ≠ v.ownBlock → (w1.setCell ⟨L, 0, none⟩ v1).heap[k]? = W.heap[k]? := fun k hk h1 h2 => by
    rw [Below.heap_setCell _ _ _ _ h1]
    exact (hg.block k (Nat.lt_of_lt_of_le hk hW2.size) h2).trans (hW2.block k hk)
  have hsz : W.heap.size ≤ (w1.setCell ⟨L, 0, none⟩ v1).heap.size := by simpa using Nat.le_trans hW2.size hg.size
  have hown := Kd.R_bound h.row
  refine ⟨hbox, ⟨hbox.set v1, ?_, hb.setCell (Nat.le_refl _) _, by simpa using Nat.le_trans hl2 hg.size⟩, ⟨hsz, fun o ho => (hoth (L + 2) (by omega) (by omega) hv.2.2.symm).trans ho, fun o ho => (hoth (L + 1) (by omega) (by omega) hv.2.1.symm).trans ho⟩, ⟨hsz, fun k o hk ho hc => ?_⟩⟩
  · have e : revs six (pre ++ [z]) = revs six pre ++ revOne six z.2 := by unfold revs; simp
    rw [e]
    exact Kd.R_far hR (fun k hk => hk.1) _
  · refine (hoth k (Array.getElem?_eq_some_iff.1 ho).1 (by omega) (fun e => ?_)).trans ho
    obtain ⟨_, _, _, q, _, cells, hce⟩ := hown.1 k e.symm
    rw [ho] at hce; cases hce; cases hc
theorem bytesWorld_below (w : World) (e : TypeId) (s : ByteArray) : Below w.heap.size w (bytesWorld w e s) :=
  ⟨rfl, rfl, rfl, by rw [bytesWorld_size]; omega, fun i hi => bytesWorld_at_old w e s i hi⟩
theorem numsB_len (o : ByteArray) : (numsB o).length = o.size := by unfold numsB; rw [List.length_map, data_length]
theorem numsB_rd (o : ByteArray) (m : Nat) (hm : m < (numsB o).length) : rd (numsB o) (m : Int) = ((o.data.toList.getD m 0).toNat : Int) := by
  unfold numsB at *
  rw [List.length_map] at hm
  have hb := List.getElem?_eq_getElem hm
  simp only [rd, rdOf, List.getD, Int.toNat_natCast, List.getElem?_map, hb, Option.map_some, Option.getD_some]
theorem numsB_byte (o : ByteArray) (m : Nat) : 0 ≤ rd (numsB o) (m : Int) ∧ rd (numsB o) (m : Int) < 256 := by
  by_cases hm : m < (numsB o).length
  · rw [numsB_rd o m hm]
    have := (o.data.toList.getD m 0).toNat_lt
    omega
  · have : rd (numsB o) (m : Int) = 0 := by
      have h2 : (numsB o)[m]? = none := List.getElem?_eq_none (by omega)
      simp [rd, rdOf, List.getD, h2]
    omega

theorem revs_len (six : Bool) (l : List (Int × Int)) : (revs six l).length ≤ 2 * l.length := by
  induction l with
  | nil => exact Nat.zero_le _
  | cons x l ih =>
    have e : revs six (x :: l) = revOne six x.2 ++ revs six l := rfl
    rw [e, List.length_append, List.length_cons]
    have : (revOne six x.2).length ≤ 2 := by
      unfold revOne
      split <;> simp
    omega
theorem new_rows (e : TypeId) (W : World) (l : List ByteArray) (hl : l.length ≤ 9223372036854775807) : ReadsRow (fun x cs => cs = [Value.string x]) 1 (W.alloc (.cells (l.map Value.string).toArray e)) (some ⟨W.heap.size, 0, none⟩) l.length l := by
  refine ⟨rfl, hl, fun _ => ⟨_, rfl, fun j p hp => ⟨_, rfl, rfl, fun i u hu => ?_⟩⟩⟩
  cases i with
  | succ i => simp at hu
  | zero =>
    obtain rfl : Value.string p = u := by simpa using hu
    have h2 : (l.map Value.string)[j]? = some (.string p) := by rw [List.getElem?_map, hp]; rfl
    have e1 : (⟨W.heap.size, 0, none⟩ : Addr).add (j * 1 + 0) = ⟨W.heap.size, j, none⟩ := by
      simp only [Nat.mul_one, Nat.add_zero, Addr.add, Nat.zero_add]
      split
      · rename_i h; rw [h]
      · rfl
    rw [e1]
    have e2 : (W.alloc (.cells (l.map Value.string).toArray e)).heap[W.heap.size]? = some (.cells (l.map Value.string).toArray e (0, 0)) := World.alloc_heap_new W _
    unfold World.cell?
    simp only [e2]
    simpa using h2
theorem cells_new (W : World) (cs : List Value) (e : TypeId) : ∀ j u, cs[j]? = some u → (W.alloc (.cells cs.toArray e)).cell? ((⟨W.heap.size, 0, none⟩ : Addr).add j) = some u := by
  intro j u hu
  have e1 : (⟨W.heap.size, 0, none⟩ : Addr).add j = ⟨W.heap.size, j, none⟩ := by
    simp only [Addr.add, Nat.zero_add]
    split
    · rename_i h; rw [h]
    · rfl
  rw [e1]
  have e2 : (W.alloc (.cells cs.toArray e)).heap[W.heap.size]? = some (.cells cs.toArray e (0, 0)) := World.alloc_heap_new W _
  unfold World.cell?
  simp only [e2]
  simpa using hu
theorem own_reads {W : World} {base e n m c : Nat} {A : Option Addr} {xs : List ByteArray} {inner : List Value} (h : W.ownsRow base e 1 (.slice A n c) m inner) (hi : inner = xs.map Value.string) : Kd.C Kd.string W A xs.length xs ∧ xs.length ≤ c := by
  subst hi
  have hm : m = xs.length := by
    have := h.1
    simpa using this.symm
  subst hm
  have hR : Kd.R Kd.string e W base (fun _ => True) (.slice A n c) xs := by
    refine ⟨fun _ _ => trivial, _, h, by simp [Kd.string, Kd.scalar], fun j p hp => ?_⟩
    have h2 : (xs.map Value.string)[j]? = some (.string p) := by rw [List.getElem?_map, hp]; rfl
    show List.take 1 (List.drop (j * 1) (xs.map Value.string)) = [Value.string p]
    rw [Nat.mul_one]
    have hj := (List.getElem?_eq_some_iff.1 h2).1
    rw [List.drop_eq_getElem_cons hj]
    rw [(List.getElem?_eq_some_iff.1 h2).2]
    rfl
  obtain ⟨A', c', e1, e2, e3⟩ := Kd.R_reads hR
  cases e1
  exact ⟨e3, e2⟩
theorem two_rows (e : TypeId) (W : World) (x y : ByteArray) : ReadsRow (fun x cs => cs = [Value.string x]) 1 (W.alloc (.cells #[.string x, .string y] e)).drew (some ⟨W.heap.size, 0, none⟩) 2 [x, y] := new_rows e W [x, y] (by simp)
theorem okR_ge {L n k : Nat} (h : L + 3 ≤ n) (hk : n ≤ k) : okR L k := ⟨by omega, by omega, by omega⟩
theorem info_strR : (Tryd.prog.info? 9).map (fun i => (i.zero, i.size, i.bytes)) = some (some (.string ⟨#[]⟩), 1, 16) := by kernel_rfl
theorem one_rows (e : TypeId) (W : World) (x : ByteArray) : ReadsRow (fun x cs => cs = [Value.string x]) 1 (W.alloc (.cells #[.string x] e)) (some ⟨W.heap.size, 0, none⟩) 1 [x] := new_rows e W [x] (by simp)
theorem u8_wr (x : Int) : IntKind.u8.wrap x = x % 256 := by first | rfl | (simp [IntKind.wrap]; done) | (unfold IntKind.wrap; simp [IntKind.bits])
set_option maxRecDepth 100000 in
set_option maxHeartbeats 2000000 in
theorem reverse_in (n : Nat) (hn : 8 ≤ n) (six : Bool) (hi lo : Int) (o : ByteArray) (hsz : o.size ≤ 100) (r1 : ByteArray) (r2 : Int)
    (hoct : ∀ w : World, Calls Tryd.prog 16 #[.agg #[.bool six, .int .u64 hi, .int .u64 lo]] w fun e w' => e = .returned (.tuple #[.string o, .int .i64 0]) ∧ Below w.heap.size w w')
    (hmake : ∀ (A : Option Addr) (c : Nat) (w : World), Kd.C Kd.string w A (revRow six o).length (revRow six o) → (revRow six o).length ≤ c → Calls Tryd.prog 39 #[.slice A (revRow six o).length c] w fun e w' => e = .returned (.tuple #[.string r1, .int .i64 r2]) ∧ Below w.heap.size w w')
    (w : World) (hG : G w) :
    CallsIn Fence.wide n Tryd.prog 23 #[.agg #[.bool six, .int .u64 hi, .int .u64 lo]] w fun e w' => e = .returned (.tuple #[.string r1, .int .i64 r2]) ∧ Below w.heap.size w w' := by
  have h1 : 1 ≤ n := by omega
  have HO := Aside0.mk (fun w => (callsIn_wide (n := n - 1)).2 (hoct w))
  have HM := Aside0.mk (fun A c w h1 h2 => (callsIn_wide (n := n - 1)).2 (hmake A c w h1 h2))
  have HBK := Aside0.mk (fun (v : Value) (hv : v.oneCell' = true) (w : World) => back_calls (n - 1) v hv w)
  have HG := Aside0.mk hG
  have HSZ := Aside0.mk hsz
  clear hoct hmake hG hsz
  have kc := fun (w : World) (s : ByteArray) => Lib.run_convert_string_bytes (P := Tryd.prog) w 9 39 5 s Tryd.underlying9 Tryd.underlying39 Tryd.underlying5
  refine callsIn_of_wp_marks Tryd.func23 rfl trivial ?_ rfl
  simp only [Tryd.ntmps23, List.size_toArray, List.length_cons, List.length_nil, Nat.reduceAdd, Nat.reduceSub, Array.replicate_succ, Array.replicate_zero, List.push_toArray, List.append_toArray, List.nil_append, List.cons_append]
  gi_wp2_with (first | (refine ⟨trivial, ?_⟩; gi_at_call 16; (with_reducible refine CallsIn.mono (HO.out _) ?_); rintro e w4 ⟨rfl, hb4⟩; have HB4 := Aside0.mk hb4; clear hb4) | (refine ⟨trivial, ?_⟩; gi_at_call 38; (with_reducible refine CallsIn.mono (HBK.out _ rfl _) ?_); rintro e w6 ⟨rfl, rfl⟩))
  have hsz2 : (bytesWorld (w4.alloc (Obj.cells #[Value.slice none 0 0] 63)) 5 o).heap.size = w4.heap.size + 2 := by rw [bytesWorld_size, World.size_alloc]
  simp only [hsz2]
  have hc0 : w4.cell? ⟨w.heap.size, 0, none⟩ = some (.bool six) := (HB4.out.cell (p := ⟨w.heap.size, 0, none⟩) (by simp)).trans (by unfold World.cell?; rw [World.alloc_heap_new]; rfl)
  have hbw : Below w.heap.size w w4 := (below_alloc (Below.refl _ _) _).trans (HB4.out.mono (by simp))
  have hL : w.heap.size < w4.heap.size := by have := HB4.out.size; simp at this; omega
  have b0 := Boxed.new w4 63 (.slice none 0 0)
  have hbB := bytesWorld_below (w4.alloc (Obj.cells #[Value.slice none 0 0] 63)) 5 o
  have hcel := bytesWorld_cell (w4.alloc (Obj.cells #[Value.slice none 0 0] 63)) 5 o
  rw [World.size_alloc] at hbB hcel
  generalize grownCap (w4.alloc (Obj.cells #[Value.slice none 0 0] 63)) o.size 0 5 = cc at *
  generalize bytesWorld (w4.alloc (Obj.cells #[Value.slice none 0 0] 63)) 5 o = wB at *
  have hbB2 : Below w4.heap.size w4 wB := (below_alloc (Below.refl _ _) _).trans (hbB.mono (by simp))
  have hn1 := Boxed.new wB 39 (.slice (some ⟨w4.heap.size + 1, 0, none⟩) o.size cc)
  have hbA := (Below.refl wB.heap.size wB).alloc (Nat.le_refl _) (Obj.cells #[.slice (some ⟨w4.heap.size + 1, 0, none⟩) o.size cc] 39)
  have hsA : (wB.alloc (Obj.cells #[.slice (some ⟨w4.heap.size + 1, 0, none⟩) o.size cc] 39)).heap.size = w4.heap.size + 3 := by rw [World.size_alloc, hsz2]
  generalize wB.alloc (Obj.cells #[.slice (some ⟨w4.heap.size + 1, 0, none⟩) o.size cc] 39) = W1 at *
  rw [hsz2] at hn1 hbA
  have hbox : Boxed W1 w4.heap.size 63 (.slice none 0 0) := (hbA.block _ (by omega)).trans ((hbB.block _ (by omega)).trans b0)
  have hb1 : Below w4.heap.size w4 W1 := hbB2.trans (hbA.mono (by omega))
  have hZ : BackZ (w4.heap.size + 2) (w4.heap.size + 1) cc (numsB o) W1 := by
    refine ⟨by rw [numsB_len]; exact hn1.cell, fun m hm => ?_⟩
    rw [numsB_rd o m hm]
    exact (hbA.cell (p := ⟨w4.heap.size + 1, m, none⟩) (by show w4.heap.size + 1 < w4.heap.size + 2; omega)).trans (hcel m (by rw [← numsB_len]; exact hm))
  have hseq := back1_stopsQ (n - 1) (by omega) (w4.heap.size + 2) (w4.heap.size + 1) cc (numsB o) (by rw [numsB_len]; have := HSZ.out; omega) W1 hZ (by omega) (by omega)
  have HG4 : Aside0 (∀ W, Below w4.heap.size w4 W → G W) := ⟨fun W hW => (HG.out.below hbw).below hW⟩
  have HC0 : Aside0 (∀ W, Below w4.heap.size w4 W → W.cell? ⟨w.heap.size, 0, none⟩ = some (.bool six)) := ⟨fun W hW => (hW.cell (p := ⟨w.heap.size, 0, none⟩) hL).trans hc0⟩
  have HL := Aside0.mk hL
  have HBW := Aside0.mk hbw
  have HSA := Aside0.mk hsA
  clear hc0 hL hbw hbB hbB2 hcel hbA hn1 b0 hZ hsz2 hsA HB4 kc HBK HO
  refine wpIn_rangeFunc_ownG rfl h1 (gf := 51) (lb := #[.pointer (some ⟨w4.heap.size + 2, 0, none⟩)]) rfl trivial (enters_of Tryd.func51 (by kernel_rfl) rfl) hseq (fun a b => a.trans b)
    (fun W l o o' hl _ _ _ => ⟨by simp, fun q hq => by rw [World.putObj_heap_other (fun e => by have := HSA.out; omega)]; exact hq, fun q hq => by rw [World.putObj_heap_other (fun e => by have := HSA.out; omega)]; exact hq⟩) (Below.refl _ _) (fun _ => rfl)
    (fun pre W => ∃ v, RevJ w4 w4.heap.size six v (pre.map Subtype.val) W)
    (fun _ _ _ => False)
    (by rw [HSA.out]; exact RevJ_own _ _ _ _)
    (fun _ _ _ _ _ hs _ _ => hs)
    ⟨_, hbox, Kd.R_nil _ _ _ _ _, hb1, by have := HSA.out; omega⟩
    (fun z => { tmps := #[.agg #[.bool six, .int .u64 hi, .int .u64 lo], .pointer (some ⟨w.heap.size, 0, none⟩), .string ⟨#[]⟩, .int .i64 0, .string o, .int .i64 0, .pointer (some ⟨w4.heap.size, 0, none⟩), undef, .int .u8 z.1.2, .tuple #[.string o, .int .i64 0], .agg #[.bool six, .int .u64 hi, .int .u64 lo], .tuple #[.string o, .int .i64 0], .string o, .int .i64 0, .int .i64 0, .bool false, undef, .string o, .slice (some ⟨w4.heap.size + 1, 0, none⟩) o.size cc, .func (.func 51) #[] #[.pointer (some ⟨w4.heap.size + 2, 0, none⟩)], .int .i64 z.1.1, .int .u8 z.1.2, undef, undef, undef, undef, undef, undef, undef, undef, undef, undef, undef, undef, undef, undef, undef, undef, undef, undef, undef, undef, undef, undef, undef, undef, undef, undef, undef, undef, undef, undef, undef, undef, undef, undef, undef], defers := [] }) ?assign ?body ?done ?stop
  case assign =>
    intro l z W K hK
    gi_wp2
    exact hK
  case body =>
    rintro l pre ⟨⟨zi, b⟩, hz⟩ W ⟨v, hJ⟩ hlt
    have HJ := Aside0.mk hJ
    have HLT := Aside0.mk hlt
    have hp0 := HC0.out W hJ.below
    have hbc := hJ.box.cell
    have hz' := hz
    obtain ⟨m, hm, hzz⟩ := hz'
    have hzb : 0 ≤ b ∧ b < 256 := by rw [show b = _ from congrArg Prod.snd hzz]; exact numsB_byte o m
    clear hJ hlt hzz
    dsimp only
    have HRL : Aside0 (((revs six (pre.map Subtype.val)).length + 2) * 16 ≤ 140737488355328) := by
      refine ⟨?_⟩
      have h1 := revs_len six (pre.map Subtype.val)
      rw [List.length_map] at h1
      have := HLT.out
      rw [numsB_len] at this
      have := HSZ.out
      omega
    cases six with
    | true =>
      obtain ⟨x, hx⟩ : ∃ x, b.tmod 16 = x := ⟨_, rfl⟩
      obtain ⟨y, hy⟩ : ∃ y, b.tdiv 16 = y := ⟨_, rfl⟩
      have hxe : x = b % 16 := by rw [← hx]; exact Int.tmod_eq_emod_of_nonneg hzb.1
      have hye : y = b / 16 := by rw [← hy]; exact Int.tdiv_eq_ediv_of_nonneg hzb.1
      have HXY : Aside0 (revOne true b = [hexS x, hexS y]) := ⟨by rw [hxe, hye]; rfl⟩
      have hxw : IntKind.u8.wrap (x + 1) = x + 1 := by rw [u8_wr]; omega
      have hyw : IntKind.u8.wrap (y + 1) = y + 1 := by rw [u8_wr]; omega
      have hyy : IntKind.u8.wrap y = y := by rw [u8_wr]; omega
      have x1 : (x + 1 ≤ 16) = True := eq_true (by omega)
      have x2 : (0 ≤ x) = True := eq_true (by omega)
      have x3 : (x ≤ x + 1) = True := eq_true (by omega)
      have y1 : (y + 1 ≤ 16) = True := eq_true (by omega)
      have y2 : (0 ≤ y) = True := eq_true (by omega)
      have y3 : (y ≤ y + 1) = True := eq_true (by omega)
      clear hxe hye
      gi_wp2
      -- REGION 8
      refine RoundRegion.start_in_ (m := 16) (S := fun w' => w'.cell? ⟨w4.heap.size, 0, none⟩ = some v) (ds := [15]) #[false, false, false, false, false, false, false, false, false, false, false, false, false, false, false, false] (by kernel_rfl) rfl rfl (by kernel_rfl) hbc (fun hHeld => ?_)
      refine pure_ (i := 1) (N := some 25) (v := ?_) (a' := ?_) #[false, true, false, false, false, false, false, false, false, false, false, false, false, false, false, false] rfl rfl (by kernel_rfl) (fun _ _ _ h => h) (Or.inl ⟨by rfl, ?_⟩) ?_ ?_
      rotate_left
      · intro w'
        go_simp
        with_reducible rfl
      rotate_left
      · simp only [Act.put, List.setIfInBounds_toArray, List.set_cons_zero, List.set_cons_succ, i64_w, i32_w]
        rfl
      refine pure_ (i := 2) (N := some 26) (v := ?_) (a' := ?_) #[false, true, true, false, false, false, false, false, false, false, false, false, false, false, false, false] rfl rfl (by kernel_rfl) (fun _ _ _ h => h) (Or.inl ⟨by rfl, ?_⟩) ?_ ?_
      rotate_left
      · intro w'
        go_simp
        with_reducible rfl
      rotate_left
      · simp only [Act.put, List.setIfInBounds_toArray, List.set_cons_zero, List.set_cons_succ, i64_w, i32_w]
        rfl
      refine pure_ (i := 3) (N := some 27) (v := ?_) (a' := ?_) #[false, true, true, true, false, false, false, false, false, false, false, false, false, false, false, false] rfl rfl (by kernel_rfl) (fun _ _ _ h => h) (Or.inl ⟨by rfl, ?_⟩) ?_ ?_
      rotate_left
      · intro w'
        go_simp
        with_reducible rfl
      rotate_left
      · simp only [Act.put, List.setIfInBounds_toArray, List.set_cons_zero, List.set_cons_succ, i64_w, i32_w]
        rfl
      refine pure_ (i := 4) (N := some 28) (v := ?_) (a' := ?_) #[false, true, true, true, true, false, false, false, false, false, false, false, false, false, false, false] rfl rfl (by kernel_rfl) (fun _ _ _ h => h) (Or.inl ⟨by rfl, ?_⟩) ?_ ?_
      rotate_left
      · intro w'
        go_simp
        with_reducible rfl
      rotate_left
      · simp only [Act.put, List.setIfInBounds_toArray, List.set_cons_zero, List.set_cons_succ, i64_w, i32_w]
        rfl
      refine pure_ (i := 5) (N := some 29) (v := ?_) (a' := ?_) #[false, true, true, true, true, true, false, false, false, false, false, false, false, false, false, false] rfl rfl (by kernel_rfl) (fun _ _ _ h => h) (Or.inl ⟨by rfl, ?_⟩) ?_ ?_
      rotate_left
      · intro w'
        go_simp
        with_reducible rfl
      rotate_left
      · simp only [Act.put, List.setIfInBounds_toArray, List.set_cons_zero, List.set_cons_succ, i64_w, i32_w]
        rfl
      refine pure_ (i := 6) (N := some 30) (v := ?_) (a' := ?_) #[false, true, true, true, true, true, true, false, false, false, false, false, false, false, false, false] rfl rfl (by kernel_rfl) (fun _ _ _ h => h) (Or.inl ⟨by rfl, ?_⟩) ?_ ?_
      rotate_left
      · intro w'
        go_simp
        with_reducible rfl
      rotate_left
      · simp only [Act.put, List.setIfInBounds_toArray, List.set_cons_zero, List.set_cons_succ, i64_w, i32_w]
        rfl
      refine pure_ (i := 7) (N := some 31) (v := ?_) (a' := ?_) #[false, true, true, true, true, true, true, true, false, false, false, false, false, false, false, false] rfl rfl (by kernel_rfl) (fun _ _ _ h => h) (Or.inl ⟨by rfl, ?_⟩) ?_ ?_
      rotate_left
      · intro w'
        go_simp
        with_reducible rfl
      rotate_left
      · simp only [Act.put, List.setIfInBounds_toArray, List.set_cons_zero, List.set_cons_succ, i64_w, i32_w]
        rfl
      refine pure_ (i := 8) (N := some 32) (v := ?_) (a' := ?_) #[false, true, true, true, true, true, true, true, true, false, false, false, false, false, false, false] rfl rfl (by kernel_rfl) (fun _ _ _ h => h) (Or.inl ⟨by rfl, ?_⟩) ?_ ?_
      rotate_left
      · intro w'
        go_simp
        with_reducible rfl
      rotate_left
      · simp only [Act.put, List.setIfInBounds_toArray, List.set_cons_zero, List.set_cons_succ, i64_w, i32_w]
        rfl
      refine pure_ (i := 9) (N := some 33) (v := ?_) (a' := ?_) #[false, true, true, true, true, true, true, true, true, true, false, false, false, false, false, false] rfl rfl (by kernel_rfl) (fun _ _ _ h => h) (Or.inl ⟨by rfl, ?_⟩) ?_ ?_
      rotate_left
      · intro w'
        go_simp
        with_reducible rfl
      rotate_left
      · simp only [Act.put, List.setIfInBounds_toArray, List.set_cons_zero, List.set_cons_succ, i64_w, i32_w]
        rfl
      refine pure_ (i := 10) (N := some 34) (v := ?_) (a' := ?_) #[false, true, true, true, true, true, true, true, true, true, true, false, false, false, false, false] rfl rfl (by kernel_rfl) (fun _ _ _ h => h) (Or.inl ⟨by rfl, ?_⟩) ?_ ?_
      rotate_left
      · intro w'
        go_simp
        with_reducible rfl
      rotate_left
      · simp only [Act.put, List.setIfInBounds_toArray, List.set_cons_zero, List.set_cons_succ, i64_w, i32_w]
        rfl
      refine pure_ (i := 11) (N := some 35) (v := ?_) (a' := ?_) #[false, true, true, true, true, true, true, true, true, true, true, true, false, false, false, false] rfl rfl (by kernel_rfl) (fun _ _ _ h => h) (Or.inl ⟨by rfl, ?_⟩) ?_ ?_
      rotate_left
      · intro w'
        go_simp
        with_reducible rfl
      rotate_left
      · simp only [Act.put, List.setIfInBounds_toArray, List.set_cons_zero, List.set_cons_succ, i64_w, i32_w]
        rfl
      refine pure_ (i := 12) (N := some 36) (v := ?_) (a' := ?_) #[false, true, true, true, true, true, true, true, true, true, true, true, true, false, false, false] rfl rfl (by kernel_rfl) (fun _ _ _ h => h) (Or.inl ⟨by rfl, ?_⟩) ?_ ?_
      rotate_left
      · intro w'
        go_simp
        with_reducible rfl
      rotate_left
      · simp only [Act.put, List.setIfInBounds_toArray, List.set_cons_zero, List.set_cons_succ, i64_w, i32_w]
        rfl
      refine take_ (i := 0) (N := some 24) (v := ?_) (a' := ?_) #[true, true, true, true, true, true, true, true, true, true, true, true, true, false, false, false] rfl rfl (by kernel_rfl) (fun _ _ _ h => h) (Or.inl ⟨by rfl, ?_⟩) hHeld ?_ ?_
      rotate_left
      · intro w' s0
        go_simp
        with_reducible rfl
      rotate_left
      · simp only [Act.put, List.setIfInBounds_toArray, List.set_cons_zero, List.set_cons_succ, i64_w, i32_w]
        rfl
      refine one_ (i := 13) (N := some 37) #[true, true, true, true, true, true, true, true, true, true, true, true, true, true, false, false] rfl rfl (by kernel_rfl) (by decide) (fun K hK => ?_)
      refine value_ (w1 := ?_) (v := ?_) (by rfl) rfl ?_ ?_
      rotate_left 2
      · go_simp
        constructor
        · rfl
        · rfl
      have H2 : Aside0 (Below W.heap.size W (W.alloc (.cells #[.string (hexS x), .string (hexS y)] 9)).drew) := ⟨((Below.refl _ _).alloc (Nat.le_refl _) _).drew⟩
      refine hK.out _ _ ((H2.out.cell (p := ⟨w4.heap.size, 0, none⟩) (by have := HJ.out.big; show w4.heap.size < _; omega)).trans hbc) (fun hHeld => ?_)
      clear hK K
      refine norm_ (a' := ?_) ?_ ?_
      rotate_left
      · show Act.put _ (some 37) _ = _
        simp only [Act.put, List.setIfInBounds_toArray, List.set_cons_zero, List.set_cons_succ, i64_w, i32_w]
        rfl
      refine one_ (i := 14) (N := some 38) #[true, true, true, true, true, true, true, true, true, true, true, true, true, true, true, false] rfl rfl (by kernel_rfl) (by decide) (fun K hK => ?_)
      refine Kd.R_append_rows_step Kd.string (Rr := fun x cs => cs = [.string x]) (w0 := w4) w4.heap.size (by rfl) (.tmp 24) (.tmp 37) 63 9 (.string ⟨#[]⟩) 16 rfl Tryd.underlying63 info_strR rfl (by decide) (by decide) v (revs true (pre.map Subtype.val)) [hexS x, hexS y] _ _ _ (okR w4.heap.size) (fun _ => False) rfl rfl ?aO ?aR (fun x cs hx => hx) (fun _ hx => hx.elim) ?aF ?aB ?aS ?aL ?_
      case aO => exact Kd.R_below HJ.out.row H2.out
      case aR => exact two_rows _ _ _ _
      case aF => exact fun k hk => okR_ge HJ.out.big (Nat.le_trans H2.out.size hk)
      case aB => exact HJ.out.below.trans (H2.out.mono (by have := HJ.out.big; omega))
      case aS => exact Nat.le_trans (Nat.le_trans (Nat.le_add_right _ 3) HJ.out.big) H2.out.size
      case aL => have := HRL.out; omega
      intro v1 w1 hR1 hb1 hg1 _
      obtain ⟨q1, q2, q3, q4⟩ := HJ.out.store H2.out (z := (zi, b)) (by rw [show revOne _ (zi, b).2 = _ from HXY.out]; exact hR1) hb1 hg1
      have Q2 := Aside0.mk q2
      have Q3 := Aside0.mk q3
      have Q4 := Aside0.mk q4
      have hc1 := q1.cell
      have hf1 := q1.frozen
      obtain ⟨A1, c1, rfl, _, _⟩ := Kd.R_reads hR1
      clear q1 q2 q3 q4 hR1 hb1 hg1
      refine hK.out _ _ (hc1) (fun hHeld => ?_)
      clear hK K
      refine norm_ (a' := ?_) ?_ ?_
      rotate_left
      · show Act.put _ (some 38) _ = _
        simp only [Act.put, List.setIfInBounds_toArray, List.set_cons_zero, List.set_cons_succ, i64_w, i32_w]
        rfl
      refine last_ (i := 15) (N := none) #[true, true, true, true, true, true, true, true, true, true, true, true, true, true, true, true] rfl rfl (by kernel_rfl) (by decide) (fun K hK => ?_)
      refine skip_ (w1 := ?_) (by rfl) rfl ?_ ?_
      rotate_left
      · go_simp
        rfl
      refine hK.out _ _ ?_
      clear hK K
      refine done_ (by kernel_rfl) ?_

      -- END 8
      refine ⟨rfl, ?_⟩
      gi_wp2
      simp only [List.length_append, List.length_cons, List.length_nil, Nat.zero_add, Nat.reduceAdd] at Q2 Q3 Q4
      exact ⟨by rw [HSA.out]; exact Q4.out, Q3.out, _, by rw [List.map_append]; exact Q2.out⟩
    | false =>
      have HXY : Aside0 (revOne false b = [mkB (Lib.itoa b)]) := ⟨rfl⟩
      have hwb : IntKind.i64.wrap b = b := (i64_w b).trans (wrap_id (by omega) (by omega))
      gi_wp2
      -- REGION 9
      refine RoundRegion.start_in_ (m := 7) (S := fun w' => w'.cell? ⟨w4.heap.size, 0, none⟩ = some v) (ds := [6]) #[false, false, false, false, false, false, false] (by kernel_rfl) rfl rfl (by kernel_rfl) hbc (fun hHeld => ?_)
      refine pure_ (i := 1) (N := some 40) (v := ?_) (a' := ?_) #[false, true, false, false, false, false, false] rfl rfl (by kernel_rfl) (fun _ _ _ h => h) (Or.inl ⟨by rfl, ?_⟩) ?_ ?_
      rotate_left
      · intro w'
        go_simp
        with_reducible rfl
      rotate_left
      · simp only [Act.put, List.setIfInBounds_toArray, List.set_cons_zero, List.set_cons_succ, i64_w, i32_w]
        rfl
      refine pure_ (i := 2) (N := some 41) (v := ?_) (a' := ?_) #[false, true, true, false, false, false, false] rfl rfl (by kernel_rfl) (fun _ _ _ h => h) (Or.inl ⟨by rfl, ?_⟩) ?_ ?_
      rotate_left
      · intro w'
        go_simp
        with_reducible rfl
      rotate_left
      · simp only [Act.put, List.setIfInBounds_toArray, List.set_cons_zero, List.set_cons_succ, i64_w, i32_w]
        rfl
      refine take_ (i := 0) (N := some 39) (v := ?_) (a' := ?_) #[true, true, true, false, false, false, false] rfl rfl (by kernel_rfl) (fun _ _ _ h => h) (Or.inl ⟨by rfl, ?_⟩) hHeld ?_ ?_
      rotate_left
      · intro w' s0
        go_simp
        with_reducible rfl
      rotate_left
      · simp only [Act.put, List.setIfInBounds_toArray, List.set_cons_zero, List.set_cons_succ, i64_w, i32_w]
        rfl
      refine one_ (i := 3) (N := some 42) #[true, true, true, true, false, false, false] rfl rfl (by kernel_rfl) (by decide) (fun K hK => ?_)
      refine goes_ Tryd.func28 (by kernel_rfl) rfl #[.int .i64 b] (by rfl) rfl rfl (by simp only [List.map_toArray, List.map_cons, List.map_nil]; rfl) ?_
      with_reducible refine ((itoa_any b (by omega) (by omega) _ (HG4.out _ (HJ.out.below.trans (below_drew1 (Below.refl _ _)))))).mono ?_
      rintro e w5 ⟨rfl, hb5⟩
      have H5 : Aside0 (Below W.heap.size W w5) := ⟨((Below.refl _ _).drew).trans hb5⟩
      clear hb5
      refine ⟨_, rfl, ?_⟩
      refine hK.out _ _ ((H5.out.cell (p := ⟨w4.heap.size, 0, none⟩) (by have := HJ.out.big; show w4.heap.size < _; omega)).trans hbc) (fun hHeld => ?_)
      clear hK K
      refine norm_ (a' := ?_) ?_ ?_
      rotate_left
      · show Act.put _ (some 42) _ = _
        simp only [Act.put, List.setIfInBounds_toArray, List.set_cons_zero, List.set_cons_succ, i64_w, i32_w]
        rfl
      refine one_ (i := 4) (N := some 43) #[true, true, true, true, true, false, false] rfl rfl (by kernel_rfl) (by decide) (fun K hK => ?_)
      refine value_ (w1 := ?_) (v := ?_) (by rfl) rfl ?_ ?_
      rotate_left 2
      · go_simp
        constructor
        · rfl
        · rfl
      have H2 : Aside0 (Below W.heap.size W (w5.alloc (.cells #[.string (mkB (Lib.itoa b))] 9))) := ⟨H5.out.alloc H5.out.size _⟩
      refine hK.out _ _ ((H2.out.cell (p := ⟨w4.heap.size, 0, none⟩) (by have := HJ.out.big; show w4.heap.size < _; omega)).trans hbc) (fun hHeld => ?_)
      clear hK K
      refine norm_ (a' := ?_) ?_ ?_
      rotate_left
      · show Act.put _ (some 43) _ = _
        simp only [Act.put, List.setIfInBounds_toArray, List.set_cons_zero, List.set_cons_succ, i64_w, i32_w]
        rfl
      refine one_ (i := 5) (N := some 44) #[true, true, true, true, true, true, false] rfl rfl (by kernel_rfl) (by decide) (fun K hK => ?_)
      refine Kd.R_append_rows_step Kd.string (Rr := fun x cs => cs = [.string x]) (w0 := w4) w4.heap.size (by rfl) (.tmp 39) (.tmp 43) 63 9 (.string ⟨#[]⟩) 16 rfl Tryd.underlying63 info_strR rfl (by decide) (by decide) v (revs false (pre.map Subtype.val)) [mkB (Lib.itoa b)] _ _ _ (okR w4.heap.size) (fun _ => False) rfl rfl ?aO ?aR (fun x cs hx => hx) (fun _ hx => hx.elim) ?aF ?aB ?aS ?aL ?_
      case aO => exact Kd.R_below HJ.out.row H2.out
      case aR => exact one_rows _ _ _
      case aF => exact fun k hk => okR_ge HJ.out.big (Nat.le_trans H2.out.size hk)
      case aB => exact HJ.out.below.trans (H2.out.mono (by have := HJ.out.big; omega))
      case aS => exact Nat.le_trans (Nat.le_trans (Nat.le_add_right _ 3) HJ.out.big) H2.out.size
      case aL => have := HRL.out; omega
      intro v1 w1 hR1 hb1 hg1 _
      obtain ⟨q1, q2, q3, q4⟩ := HJ.out.store H2.out (z := (zi, b)) (by rw [show revOne _ (zi, b).2 = _ from HXY.out]; exact hR1) hb1 hg1
      have Q2 := Aside0.mk q2
      have Q3 := Aside0.mk q3
      have Q4 := Aside0.mk q4
      have hc1 := q1.cell
      have hf1 := q1.frozen
      obtain ⟨A1, c1, rfl, _, _⟩ := Kd.R_reads hR1
      clear q1 q2 q3 q4 hR1 hb1 hg1
      refine hK.out _ _ (hc1) (fun hHeld => ?_)
      clear hK K
      refine norm_ (a' := ?_) ?_ ?_
      rotate_left
      · show Act.put _ (some 44) _ = _
        simp only [Act.put, List.setIfInBounds_toArray, List.set_cons_zero, List.set_cons_succ, i64_w, i32_w]
        rfl
      refine last_ (i := 6) (N := none) #[true, true, true, true, true, true, true] rfl rfl (by kernel_rfl) (by decide) (fun K hK => ?_)
      refine skip_ (w1 := ?_) (by rfl) rfl ?_ ?_
      rotate_left
      · go_simp
        rfl
      refine hK.out _ _ ?_
      clear hK K
      refine done_ (by kernel_rfl) ?_

      -- END 9
      refine ⟨rfl, ?_⟩
      gi_wp2
      simp only [List.length_append, List.length_cons, List.length_nil, Nat.zero_add, Nat.reduceAdd] at Q2 Q3 Q4
      exact ⟨by rw [HSA.out]; exact Q4.out, Q3.out, _, by rw [List.map_append]; exact Q2.out⟩
  case done =>
    rintro D ys W hD hys ⟨v, hJ⟩ hK
    obtain ⟨i0, hi, hz0, hz1, hz2⟩ := info_parts info_strR
    have hp0 := HC0.out W hJ.below
    have hbc := hJ.box.cell
    have hrow := R_str hJ.row
    have hWb := hJ.big
    have hln := revs_len six (ys.map Subtype.val)
    rw [hys, seqB_len, numsB_len] at hln
    rw [hys] at hrow
    have hsz0 := HSZ.out
    cases six with
    | true =>
      gi_wp2_with (first | (gi_at_builtin; refine wpListIn_append_own _ rfl _ _ 63 rfl w4.heap.size 9 i0 (.string ⟨#[]⟩) 1 16 Tryd.underlying63 hi hz0 hz1 hz2 rfl (by decide) _ _ _ rfl (hrow.alloc _) ⟨W.heap.size, 0, none⟩ 2 2 [.string ⟨#[105, 112, 54]⟩, .string ⟨#[97, 114, 112, 97]⟩] rfl rfl (cells_new _ [.string ⟨#[105, 112, 54]⟩, .string ⟨#[97, 114, 112, 97]⟩] _) (by simp [Value.oneCell']) (by unfold maxLen; omega) (by omega) (by simp; omega) ?_; intro v' w1 hown' hgrow _; obtain ⟨g', cap', rfl⟩ := ownsRow_succ hown'; obtain ⟨hv1, hv2, hr2, hk2, hb2⟩ := hJ.box.appended (by decide) hrow (by omega) (Nat.le_refl _) hown' hgrow; have hc1 := hv1.cell; have hf1 := hv1.frozen) | (refine ⟨trivial, ?_⟩; gi_at_call 39; obtain ⟨hC, hle⟩ := own_reads (xs := revRow true o) hr2 (by rw [revRow, List.map_append]; rfl); have HT := HM.out _ _ _ hC hle; rw [show (revRow true o).length = (revs true (seqB (numsB o) 0)).length + 1 + 1 from by rw [revRow, List.length_append]; rfl] at HT; (with_reducible refine CallsIn.mono HT ?_); rintro e w7 ⟨rfl, hb7⟩))
      have hk7 : w7.heap[D]? = some (.deferred (some [])) := (hb7.block D (Array.getElem?_eq_some_iff.1 (hk2.same D _ hK rfl)).1).trans (hk2.same D _ hK rfl)
      refine ⟨by simp, .inl ⟨_, _, rfl, run_takeDeferred hk7, ?_⟩⟩
      exact ⟨_, results_tmp2 rfl _ _ _, rfl, ((HBW.out.trans ((hJ.below.trans hb2).mono (by have := HL.out; omega))).trans (hb7.mono (Nat.le_trans (by have := HL.out; omega) (Nat.le_trans hWb hk2.size)))).trans (belowK_b (w := w) (Nat.le_refl _) _ D _ _ (by have := HSA.out; have := HL.out; omega) hk7 rfl rfl)⟩
    | false =>
      gi_wp2_with (first | (gi_at_builtin; refine wpListIn_append_own _ rfl _ _ 63 rfl w4.heap.size 9 i0 (.string ⟨#[]⟩) 1 16 Tryd.underlying63 hi hz0 hz1 hz2 rfl (by decide) _ _ _ rfl (hrow.alloc _) ⟨W.heap.size, 0, none⟩ 2 2 [.string ⟨#[105, 110, 45, 97, 100, 100, 114]⟩, .string ⟨#[97, 114, 112, 97]⟩] rfl rfl (cells_new _ [.string ⟨#[105, 110, 45, 97, 100, 100, 114]⟩, .string ⟨#[97, 114, 112, 97]⟩] _) (by simp [Value.oneCell']) (by unfold maxLen; omega) (by omega) (by simp; omega) ?_; intro v' w1 hown' hgrow _; obtain ⟨g', cap', rfl⟩ := ownsRow_succ hown'; obtain ⟨hv1, hv2, hr2, hk2, hb2⟩ := hJ.box.appended (by decide) hrow (by omega) (Nat.le_refl _) hown' hgrow; have hc1 := hv1.cell; have hf1 := hv1.frozen) | (refine ⟨trivial, ?_⟩; gi_at_call 39; obtain ⟨hC, hle⟩ := own_reads (xs := revRow false o) hr2 (by rw [revRow, List.map_append]; rfl); have HT := HM.out _ _ _ hC hle; rw [show (revRow false o).length = (revs false (seqB (numsB o) 0)).length + 1 + 1 from by rw [revRow, List.length_append]; rfl] at HT; (with_reducible refine CallsIn.mono HT ?_); rintro e w7 ⟨rfl, hb7⟩))
      have hk7 : w7.heap[D]? = some (.deferred (some [])) := (hb7.block D (Array.getElem?_eq_some_iff.1 (hk2.same D _ hK rfl)).1).trans (hk2.same D _ hK rfl)
      refine ⟨by simp, .inl ⟨_, _, rfl, run_takeDeferred hk7, ?_⟩⟩
      exact ⟨_, results_tmp2 rfl _ _ _, rfl, ((HBW.out.trans ((hJ.below.trans hb2).mono (by have := HL.out; omega))).trans (hb7.mono (Nat.le_trans (by have := HL.out; omega) (Nat.le_trans hWb hk2.size)))).trans (belowK_b (w := w) (Nat.le_refl _) _ D _ _ (by have := HSA.out; have := HL.out; omega) hk7 rfl rfl)⟩
  case stop =>
    rintro D c pre W _ _ h _
    exact h.elim

set_option maxRecDepth 100000 in
set_option maxHeartbeats 2000000 in
theorem reverse_err (six : Bool) (hi lo : Int) (o : ByteArray) (x : Int) (hx : x ≠ 0)
    (hoct : ∀ w : World, Calls Tryd.prog 16 #[.agg #[.bool six, .int .u64 hi, .int .u64 lo]] w fun e w' => e = .returned (.tuple #[.string o, .int .i64 x]) ∧ Below w.heap.size w w') (w : World) :
    Calls Tryd.prog 23 #[.agg #[.bool six, .int .u64 hi, .int .u64 lo]] w fun e w' => e = .returned (.tuple #[.string ⟨#[]⟩, .int .i64 x]) ∧ Below w.heap.size w w' := by
  have HO := Aside0.mk hoct
  have x1 : (x == 0) = false := beq_eq_false_iff_ne.2 hx
  have x2 : (x != 0) = true := bne_iff_ne.2 hx
  clear hoct hx
  go_enter Tryd.func23, Tryd.ntmps23
  go_wp2_with (refine (HO.out _).mono ?_; rintro e w4 ⟨rfl, hb4⟩)
  refine bodyPost_ret (results_tmp2 rfl _ _ _) rfl ?_
  exact ⟨rfl, (below_alloc (Below.refl _ _) _).trans (hb4.mono (by simp))⟩
theorem reverse_calls (oct : Bool → Int → Int → Option (ByteArray × Int)) (make : List ByteArray → Option (ByteArray × Int)) (six : Bool) (hi lo : Int) (r1 : ByteArray) (r2 : Int)
    (hoct : ∀ (o : ByteArray) (x : Int), oct six hi lo = some (o, x) → ∀ w : World, Calls Tryd.prog 16 #[.agg #[.bool six, .int .u64 hi, .int .u64 lo]] w fun e w' => e = .returned (.tuple #[.string o, .int .i64 x]) ∧ Below w.heap.size w w')
    (hmake : ∀ (A : Option Addr) (c : Nat) (l : List ByteArray) (r1 : ByteArray) (r2 : Int) (w : World), Kd.C Kd.string w A l.length l → l.length ≤ c → make l = some (r1, r2) → Calls Tryd.prog 39 #[.slice A l.length c] w fun e w' => e = .returned (.tuple #[.string r1, .int .i64 r2]) ∧ Below w.heap.size w w')
    (w : World) (hG : G w) (h : reverseF oct make six hi lo = some (r1, r2)) :
    Calls Tryd.prog 23 #[.agg #[.bool six, .int .u64 hi, .int .u64 lo]] w fun e w' => e = .returned (.tuple #[.string r1, .int .i64 r2]) ∧ Below w.heap.size w w' := by
  unfold reverseF at h
  cases ho : oct six hi lo with
  | none => rw [ho] at h; cases h
  | some p =>
    obtain ⟨o, x⟩ := p
    rw [ho, Option.bind_some] at h
    dsimp only at h
    by_cases hx : x = 0
    · subst hx
      rw [if_pos rfl] at h
      by_cases hs : o.size ≤ 100
      · rw [if_pos hs] at h
        exact (callsIn_wide (n := 8)).1 (reverse_in 8 (by omega) six hi lo o hs r1 r2 (hoct o 0 ho) (fun A c w h1 h2 => hmake A c _ r1 r2 w h1 h2 h) w hG)
      · rw [if_neg hs] at h; cases h
    · rw [if_neg hx] at h
      obtain ⟨e1, e2⟩ := Prod.mk.inj (Option.some.inj h)
      rw [← e1, ← e2]
      exact reverse_err six hi lo o x hx (hoct o x ho) w
theorem reverseF_mono {f g : Bool → Int → Int → Option (ByteArray × Int)} {make : List ByteArray → Option (ByteArray × Int)} (h : ∀ a b c, LeO (f a b c) (g a b c)) (six : Bool) (hi lo : Int) : LeO (reverseF f make six hi lo) (reverseF g make six hi lo) := by
  unfold reverseF
  exact LeO.bind (h _ _ _) (fun _ => LeO.refl _)
end
end Go.Proofs.YtilobbjnmnnmnaaDoor.AddrLib
