/- This text proves, for each Go function named below, which plain Lean function its call computes, in whatever memory; a program of this session has written it. -/
import Derived.Test.YtbalmnkbodcigaaGreatDoorProg
import Derived.Below
import Derived.Deep.Draws
import Derived.Deep.AppendLies
import Derived.Maps.AppendAt
import Derived.OwnWalk
import Derived.Laws.BytesArg
import Derived.Laws.MakeOwn
import Derived.Laws.OwnMore
import Derived.Deep.OwnRows
import Derived.Tactics
import Derived.Lib.ConvBytes
import Derived.Laws.Slices
import Derived.WalkKit
import Derived.KernelRfl
import Derived.RowKit3
import Derived.Deep.LoopGhost
import Derived.Deep.QuietTactic
import Derived.BigQuiet
import Derived.WideLaws
import Derived.Deep.DeepCutAuto
import Derived.Deep.CutBlock
import Derived.Deep.RegionHeld3
import Derived.Laws.Rows
import Derived.Lib.AppendStr
import Derived.ArgAppend
import Derived.Laws.IdiomCopy
import Derived.OrdersHeld
import Derived.Laws.BitsLemmas
import Derived.RowKit
import Derived.Test.YtbalmnkbodcigaaGreatDoorHandWords
import Derived.Test.YtbalmnkbodcigaaGreatDoorRangeRead
import Derived.Test.YtbalmnkbodcigaaGreatDoorAddrHex
import Derived.Test.YtbalmnkbodcigaaGreatDoorAddrNewer
import Derived.Test.YtbalmnkbodcigaaGreatDoorAddrText
import Derived.Test.YtbalmnkbodcigaaGreatDoorRangeFree
import Derived.Test.YtbalmnkbodcigaaGreatDoorRefElder
import Derived.Test.YtbalmnkbodcigaaGreatDoorRefAdd
import Derived.Test.YtbalmnkbodcigaaGreatDoorWWords
import Derived.Test.YtbalmnkbodcigaaGreatDoorWLast
import Derived.Test.YtbalmnkbodcigaaGreatDoorWTab
import Derived.Test.YtbalmnkbodcigaaGreatDoorWFour
import Derived.Test.YtbalmnkbodcigaaGreatDoorWQPut
import Derived.Test.YtbalmnkbodcigaaGreatDoorWApart
import Derived.Test.YtbalmnkbodcigaaGreatDoorWArr
import Derived.Test.YtbalmnkbodcigaaGreatDoorWZeros
import Derived.Test.YtbalmnkbodcigaaGreatDoorWFoot
import Derived.Test.YtbalmnkbodcigaaGreatDoorWKept
import Derived.Test.YtbalmnkbodcigaaGreatDoorWShare
import Derived.Test.YtbalmnkbodcigaaGreatDoorWN
import Derived.Test.YtbalmnkbodcigaaGreatDoorWFootNe
import Derived.Test.YtbalmnkbodcigaaGreatDoorWAt
import Derived.Test.YtbalmnkbodcigaaGreatDoorWEqStruct
import Derived.Test.YtbalmnkbodcigaaGreatDoorWRepsOne
import Derived.Test.YtbalmnkbodcigaaGreatDoorWInv
import Derived.Test.YtbalmnkbodcigaaGreatDoorWInvWords
import Derived.Test.YtbalmnkbodcigaaGreatDoorWGuard
import Derived.Test.YtbalmnkbodcigaaGreatDoorWNEv
import Derived.Test.YtbalmnkbodcigaaGreatDoorWMore
namespace Go.Proofs.YtbalmnkbodcigaaGreatDoor.ORc
open Go.RowKit Go.Proofs.YtbalmnkbodcigaaGreatDoorW.PrintWords Go.Proofs.YtbalmnkbodcigaaGreatDoorW.PrintLast Go.Proofs.YtbalmnkbodcigaaGreatDoorW.PrintMore
attribute [local go_sem] max2_int min2_int max_two min_two max_three min_three max_four min_four   -- for this text's walks alone
set_option linter.unusedVariables false
set_option linter.unusedSimpArgs false



def errW : Option Int → Value
  | none => .nilIface
  | some c => .iface 147 (.int .i64 c)
theorem errW_none : errW none = .nilIface := rfl
theorem errW_some (c : Int) : errW (some c) = .iface 147 (.int .i64 c) := rfl

theorem info3 : (Tryz.prog.info? 3).map (fun i => (i.zero, i.size, i.bytes)) = some (some (.int .i64 0), 1, 8) := by kernel_rfl
theorem info5 : (Tryz.prog.info? 5).map (fun i => (i.zero, i.size, i.bytes)) = some (some (.int .u8 0), 1, 1) := by kernel_rfl
theorem info9 : (Tryz.prog.info? 9).map (fun i => (i.zero, i.size, i.bytes)) = some (some (.string ⟨#[]⟩), 1, 16) := by kernel_rfl
theorem info22 : (Tryz.prog.info? 22).map (fun i => (i.zero, i.size, i.bytes)) = some (some (.int .u64 0), 1, 8) := by kernel_rfl
theorem info26 : (Tryz.prog.info? 26).map (fun i => (i.zero, i.size, i.bytes)) = some (some (.agg #[(.bool false), (.int .u64 0), (.int .u64 0), (.int .i64 0)]), 4, 32) := by kernel_rfl
theorem info77 : (Tryz.prog.info? 77).map (fun i => (i.zero, i.size, i.bytes)) = some (some (.int .u16 0), 1, 2) := by kernel_rfl
-- the values' own types
def rd_L3 (xs : List (List Int)) (i : Int) : (List Int) := xs.getD i.toNat ([] : List Int)
theorem at_L3 {w : World} {A : Option Addr} {n : Nat} {xs : List (List Int)} (h : Kd.C (Kd.slice 77 (Kd.int .u16)) w A n xs) (i : Int) (h0 : 0 ≤ i) (h1 : i < n) : ∃ ad A0 c0, A = some ad ∧ w.cell? (ad.add i.toNat) = some (.slice A0 (rd_L3 xs i).length c0) ∧ (rd_L3 xs i).length ≤ c0 ∧ (Kd.int .u16).C w A0 (rd_L3 xs i).length (rd_L3 xs i) := by
  obtain ⟨ad, c, e, _, hK, hc0⟩ := Kd.C_get h ([] : List Int) i h0 h1
  have hc : ∀ j u, c[j]? = some u → w.cell? (ad.add (i.toNat * 1 + j)) = some u := hc0
  obtain ⟨A0, c0, rfl, l0, g0⟩ := hK
  exact ⟨ad, A0, c0, e, by have hq := hc 0 _ rfl; rwa [Nat.mul_one, Nat.add_zero] at hq, l0, g0⟩

/-! #### struct type 24 -/
structure S24 where
  f0 : Bool
  f1 : Int
  f2 : Int
def z24 : S24 := ⟨false, (0 : Int), (0 : Int)⟩
def k24 : Kd S24 := Kd.iso (Kd.pair Kd.bool (Kd.pair (Kd.int .u64) (Kd.int .u64))) (fun x : S24 => (x.f0, x.f1, x.f2))
theorem k24_open {w : World} {x : S24} {cs : List Value} (h : k24.K w x cs) : cs = [.bool x.f0, .int .u64 x.f1, .int .u64 x.f2] := by
  obtain ⟨_, _, rfl, rfl, ⟨_, _, rfl, rfl, rfl⟩⟩ := h
  exact rfl
theorem k24_openM {w : World} {base : Nat} {ok : Nat → Prop} {x : S24} {cs : List Value} (h : k24.M w base ok x cs) : cs = [.bool x.f0, .int .u64 x.f1, .int .u64 x.f2] := by
  obtain ⟨_, _, rfl, rfl, ⟨_, _, rfl, rfl, rfl⟩⟩ := h
  exact rfl
theorem k24_mk (w : World) (x : S24)  : k24.K w x [.bool x.f0, .int .u64 x.f1, .int .u64 x.f2] := ⟨[.bool x.f0], [.int .u64 x.f1, .int .u64 x.f2], rfl, rfl, ⟨[.int .u64 x.f1], [.int .u64 x.f2], rfl, rfl, rfl⟩⟩
theorem k24_mkM (w : World) (base : Nat) (ok : Nat → Prop) (x : S24)  : k24.M w base ok x [.bool x.f0, .int .u64 x.f1, .int .u64 x.f2] := ⟨[.bool x.f0], [.int .u64 x.f1, .int .u64 x.f2], rfl, rfl, ⟨[.int .u64 x.f1], [.int .u64 x.f2], rfl, rfl, rfl⟩⟩
def rd_T24 (xs : List S24) (i : Int) : S24 := xs.getD i.toNat z24
theorem at_T24 {w : World} {A : Option Addr} {n : Nat} {xs : List S24} (h : Kd.C k24 w A n xs) (i : Int) (h0 : 0 ≤ i) (h1 : i < n) : ∃ ad , A = some ad ∧ w.cell? (ad.add (i.toNat * 3)) = some (.bool (rd_T24 xs i).f0) ∧ w.cell? ⟨(ad.add (i.toNat * 3)).block, (ad.add (i.toNat * 3)).off + 1, none⟩ = some (.int .u64 (rd_T24 xs i).f1) ∧ w.cell? ⟨(ad.add (i.toNat * 3)).block, (ad.add (i.toNat * 3)).off + 2, none⟩ = some (.int .u64 (rd_T24 xs i).f2) := by
  obtain ⟨ad, c, e, _, hK, hc0⟩ := Kd.C_get h z24 i h0 h1
  have hc : ∀ j u, c[j]? = some u → w.cell? (ad.add (i.toNat * 3 + j)) = some u := hc0
  obtain rfl := k24_open hK
  exact ⟨ad, e, hc 0 _ rfl, by rw [← add_field _ _ 1 (by omega)]; exact hc 1 _ rfl, by rw [← add_field _ _ 2 (by omega)]; exact hc 2 _ rfl⟩

/-! #### struct type 26 -/
structure S26 where
  f0 : S24
  f1 : Int
def z26 : S26 := ⟨z24, (0 : Int)⟩
def k26 : Kd S26 := Kd.iso (Kd.pair k24 (Kd.int .i64)) (fun x : S26 => (x.f0, x.f1))
theorem k26_open {w : World} {x : S26} {cs : List Value} (h : k26.K w x cs) : cs = [.bool x.f0.f0, .int .u64 x.f0.f1, .int .u64 x.f0.f2, .int .i64 x.f1] := by
  obtain ⟨_, _, rfl, s0, rfl⟩ := h
  obtain rfl := k24_open s0
  exact rfl
theorem k26_openM {w : World} {base : Nat} {ok : Nat → Prop} {x : S26} {cs : List Value} (h : k26.M w base ok x cs) : cs = [.bool x.f0.f0, .int .u64 x.f0.f1, .int .u64 x.f0.f2, .int .i64 x.f1] := by
  obtain ⟨_, _, rfl, s0, rfl⟩ := h
  obtain rfl := k24_openM s0
  exact rfl
theorem k26_mk (w : World) (x : S26)  : k26.K w x [.bool x.f0.f0, .int .u64 x.f0.f1, .int .u64 x.f0.f2, .int .i64 x.f1] := ⟨[.bool x.f0.f0, .int .u64 x.f0.f1, .int .u64 x.f0.f2], [.int .i64 x.f1], rfl, (k24_mk w x.f0 ), rfl⟩
theorem k26_mkM (w : World) (base : Nat) (ok : Nat → Prop) (x : S26)  : k26.M w base ok x [.bool x.f0.f0, .int .u64 x.f0.f1, .int .u64 x.f0.f2, .int .i64 x.f1] := ⟨[.bool x.f0.f0, .int .u64 x.f0.f1, .int .u64 x.f0.f2], [.int .i64 x.f1], rfl, (k24_mkM w base ok x.f0 ), rfl⟩
def rd_T26 (xs : List S26) (i : Int) : S26 := xs.getD i.toNat z26
theorem at_T26 {w : World} {A : Option Addr} {n : Nat} {xs : List S26} (h : Kd.C k26 w A n xs) (i : Int) (h0 : 0 ≤ i) (h1 : i < n) : ∃ ad , A = some ad ∧ w.cell? (ad.add (i.toNat * 4)) = some (.bool (rd_T26 xs i).f0.f0) ∧ w.cell? ⟨(ad.add (i.toNat * 4)).block, (ad.add (i.toNat * 4)).off + 1, none⟩ = some (.int .u64 (rd_T26 xs i).f0.f1) ∧ w.cell? ⟨(ad.add (i.toNat * 4)).block, (ad.add (i.toNat * 4)).off + 2, none⟩ = some (.int .u64 (rd_T26 xs i).f0.f2) ∧ w.cell? ⟨(ad.add (i.toNat * 4)).block, (ad.add (i.toNat * 4)).off + 3, none⟩ = some (.int .i64 (rd_T26 xs i).f1) := by
  obtain ⟨ad, c, e, _, hK, hc0⟩ := Kd.C_get h z26 i h0 h1
  have hc : ∀ j u, c[j]? = some u → w.cell? (ad.add (i.toNat * 4 + j)) = some u := hc0
  obtain rfl := k26_open hK
  exact ⟨ad, e, hc 0 _ rfl, by rw [← add_field _ _ 1 (by omega)]; exact hc 1 _ rfl, by rw [← add_field _ _ 2 (by omega)]; exact hc 2 _ rfl, by rw [← add_field _ _ 3 (by omega)]; exact hc 3 _ rfl⟩

end Go.Proofs.YtbalmnkbodcigaaGreatDoor.ORc
set_option linter.unusedVariables false
namespace Go.Proofs.YtbalmnkbodcigaaGreatDoor.ORc
open Go.RowKit Go.Proofs.YtbalmnkbodcigaaGreatDoorW.PrintWords Go.Proofs.YtbalmnkbodcigaaGreatDoorW.PrintLast Go.Proofs.YtbalmnkbodcigaaGreatDoorW.PrintMore
abbrev Yy := true
abbrev Nn := false
theorem aM {p : Prop} (h : p) : Aside0 p := ⟨h⟩
theorem bA {w W : World} (h : Below w.heap.size w W) (o : Obj) : Below w.heap.size w (W.alloc o) := below_alloc h o
theorem bN {B : Nat} {w W : World} (h : Below B w W) (n : Nat) : Below B w (W.drewN n) := pw_below_drewN h n
theorem bD {B : Nat} {w W : World} (h : Below B w W) : Below B w W.drew := below_drew1 h
theorem kN {w : World} {g : Nat} {o : Obj} (h : w.heap[g]? = some o) (n : Nat) : (w.drewN n).heap[g]? = some o := blk_drewN h n
theorem kD {w : World} {g : Nat} {o : Obj} (h : w.heap[g]? = some o) : w.drew.heap[g]? = some o := blk_drew h
theorem kA {w : World} {g : Nat} {o : Obj} (h : w.heap[g]? = some o) (q : Obj) : (w.alloc q).heap[g]? = some o := blk_alloc h q
theorem kC {w : World} {g : Nat} {t : TypeId} {cs : Array Value} (h : w.heap[g]? = some (.cells cs t (0, 0))) (i : Nat) : w.cell? ⟨g, i, none⟩ = cs[i]? := blk_cell h i
theorem kF {w : World} {g : Nat} {t : TypeId} {cs : Array Value} (h : w.heap[g]? = some (.cells cs t (0, 0))) (i : Nat) : w.frozen? ⟨g, i, none⟩ = false := blk_frozen h i
/-! ### What lies in memory, further on -/
theorem tB {p q : Prop} (h : p) (g : p → q := by intro h_; repeat (first | (with_reducible first | exact h_ | apply bA | apply bN | apply bD | refine below_set ?_ (by apply Aside0.out; assumption)) | exact h_)) : q := g h
theorem tK {p q : Prop} (h : p) (g : p → q := by intro h_; (with_reducible repeat (first | apply kN | apply kD | apply kA)); exact h_) : q := g h
theorem tP {p q : Prop} (h : p) (g : p → q := by intro h_; (repeat (first | (with_reducible first | apply kN | apply kD | apply kA) | with_reducible apply blk_put | with_reducible apply blk_far | exact h_)); all_goals first | rfl | exact Aside0.out (by assumption)) : q := g h
theorem tR {p q : Prop} (h : p) (g : p → q := by intro h_; (with_reducible repeat (first | apply Kd.R_alloc | apply Kd.R_drewN | apply Kd.R_drew)); exact h_) : q := g h
theorem tG {w0 w W : World} (h : Below w0.heap.size w0 w) (g : Below w0.heap.size w0 w → Below w0.heap.size w0 W := by intro h_; repeat (first | (with_reducible first | exact h_ | apply bA | apply bN | apply bD | refine below_set ?_ (by apply Aside0.out; assumption)) | exact h_)) : Below w0.heap.size w0 W := g h
theorem tC {p q : Prop} (h : p) (g : p → q := by intro h_; repeat (first | exact h_ | (with_reducible refine Kd.C_alloc ?_ _) | (with_reducible refine Kd.C_drewN ?_ _) | (with_reducible refine Kd.C_drew ?_))) : q := g h
theorem oB {α β : Type} {x : Option α} {f : α → Option β} {r : β} (h : x.bind f = some r) : ∃ t, Aside0 (x = some t) ∧ f t = some r := by
  obtain ⟨t, h1, h2⟩ := Option.bind_eq_some_iff.mp h
  exact ⟨t, ⟨h1⟩, h2⟩
theorem tE {p : Prop} (h : p := by first | rfl | (simp [errW_none, errW_some] <;> rfl) | (simp [*, errW_none, errW_some] <;> rfl)) : p := h
theorem tF {p : Prop} (h : p := by first | rfl | (simp; done) | (simp [*]; done)) : p := h
theorem kB {w w1 W : World} {g : Nat} {o : Obj} (h : w.heap[g]? = some o) (hb : Below W.heap.size W w1) (e : w.heap[g]? = some o → W.heap[g]? = some o := by intro h_; (with_reducible repeat (first | apply kN | apply kD | apply kA)); exact h_) : Aside0 (w1.heap[g]? = some o) := ⟨blk_below (e h) hb⟩
theorem kP {w w1 W : World} {g : Nat} {o0 o : Obj} (h : w.heap[g]? = some o0) (hb : Below W.heap.size W w1) (e : w.heap[g]? = some o0 → W.heap[g]? = some o := by intro h_; exact tP h_) : Aside0 (w1.heap[g]? = some o) := ⟨blk_below (e h) hb⟩
theorem bS {w0 w W w1 : World} (h : Below w0.heap.size w0 w) (hb : Below W.heap.size W w1) (e : Below w0.heap.size w0 w → Below w0.heap.size w0 W := by intro h_; exact tB h_) : Aside0 (Below w0.heap.size w0 w1) := ⟨below_step (e h) hb⟩
theorem gS {w0 w W : World} {g : Nat} (hg : g = W.heap.size) (h : Below w0.heap.size w0 w) (e : Below w0.heap.size w0 w → Below w0.heap.size w0 W := by intro h_; exact tB h_) : Aside0 (w0.heap.size ≤ g) := ⟨by rw [hg]; exact below_size (e h)⟩
theorem nB {w W : World} {g0 g : Nat} {o : Obj} (hg : g = W.heap.size) (h : w.heap[g0]? = some o) (e : w.heap[g0]? = some o → W.heap[g0]? = some o := by intro h_; exact tK h_) : Aside0 (g0 ≠ g) := ⟨by rw [hg]; exact Nat.ne_of_lt (blk_lt (e h))⟩
theorem nP {w W : World} {g0 g : Nat} {o0 : Obj} (o : Obj) (hg : g = W.heap.size) (h : w.heap[g0]? = some o0) (e : w.heap[g0]? = some o0 → W.heap[g0]? = some o := by intro h_; exact tP h_) : Aside0 (g0 ≠ g) := ⟨by rw [hg]; exact Nat.ne_of_lt (blk_lt (e h))⟩
theorem nS {a b : Nat} (h : Aside0 (a ≠ b)) : Aside0 (b ≠ a) := ⟨fun e => h.out e.symm⟩
theorem kZ3 {w : World} {g : Nat} {t : TypeId} {a b c : Value} (h : w.heap[g]? = some (.cells #[a, b, c] t (0, 0))) : w.cell? ⟨g, 0, none⟩ = some a ∧ w.cell? ⟨g, 1, none⟩ = some b ∧ w.cell? ⟨g, 2, none⟩ = some c := ⟨(kC h 0).trans rfl, (kC h 1).trans rfl, (kC h 2).trans rfl⟩
theorem kZ4 {w : World} {g : Nat} {t : TypeId} {a b c d : Value} (h : w.heap[g]? = some (.cells #[a, b, c, d] t (0, 0))) : w.cell? ⟨g, 0, none⟩ = some a ∧ w.cell? ⟨g, 1, none⟩ = some b ∧ w.cell? ⟨g, 2, none⟩ = some c ∧ w.cell? ⟨g, 3, none⟩ = some d := ⟨(kC h 0).trans rfl, (kC h 1).trans rfl, (kC h 2).trans rfl, (kC h 3).trans rfl⟩
theorem kY3 {w : World} {g : Nat} {t : TypeId} {a b c : Value} (h : w.heap[g]? = some (.cells #[a, b, c] t (0, 0))) : w.cell? ⟨g, 0, none⟩ = some a ∧ w.cell? ⟨g, 1, none⟩ = some b ∧ w.cell? ⟨g, 2, none⟩ = some c ∧ w.frozen? ⟨g, 0, none⟩ = false ∧ w.frozen? ⟨g, 1, none⟩ = false ∧ w.frozen? ⟨g, 2, none⟩ = false := ⟨(kC h 0).trans rfl, (kC h 1).trans rfl, (kC h 2).trans rfl, kF h 0, kF h 1, kF h 2⟩
theorem kY4 {w : World} {g : Nat} {t : TypeId} {a b c d : Value} (h : w.heap[g]? = some (.cells #[a, b, c, d] t (0, 0))) : w.cell? ⟨g, 0, none⟩ = some a ∧ w.cell? ⟨g, 1, none⟩ = some b ∧ w.cell? ⟨g, 2, none⟩ = some c ∧ w.cell? ⟨g, 3, none⟩ = some d ∧ w.frozen? ⟨g, 0, none⟩ = false ∧ w.frozen? ⟨g, 1, none⟩ = false ∧ w.frozen? ⟨g, 2, none⟩ = false ∧ w.frozen? ⟨g, 3, none⟩ = false := ⟨(kC h 0).trans rfl, (kC h 1).trans rfl, (kC h 2).trans rfl, (kC h 3).trans rfl, kF h 0, kF h 1, kF h 2, kF h 3⟩
def cZ3 (w : World) (g : Nat) (a b c : Value) : Prop := w.cell? ⟨g, 0, none⟩ = some a ∧ w.cell? ⟨g, 1, none⟩ = some b ∧ w.cell? ⟨g, 2, none⟩ = some c
def cZ4 (w : World) (g : Nat) (a b c d : Value) : Prop := w.cell? ⟨g, 0, none⟩ = some a ∧ w.cell? ⟨g, 1, none⟩ = some b ∧ w.cell? ⟨g, 2, none⟩ = some c ∧ w.cell? ⟨g, 3, none⟩ = some d
section
variable {P : Program} {ops : Array Oper} {o : Oper} {rest : List Oper} {Q : Exit → Act → World → Prop}
theorem gD {a : Act} {W : World} (N : Tmp) (hN : o.dst = some N) (h : wpList P ops Q (o :: rest) a W) : wpList P ops Q (o :: rest) a W := h
theorem gC {a : Act} {W : World} (f : FuncId) {as_ : Array Operand} {ts : Array TypeId} (ho : o.op = .call { callee := .value (.func f), args := as_, argTypes := ts }) (h : wpList P ops Q (o :: rest) a W) : wpList P ops Q (o :: rest) a W := h
theorem bX {a : Act} {W : World} (N : Tmp) (cs : Array Value) (t : TypeId) (h : ∀ g, g = W.heap.size → ∀ w1, w1.heap[g]? = some (.cells cs t (0, 0)) → Below W.heap.size W w1 → wpList P ops Q rest (a.put o.dst (.pointer (some ⟨g, 0, none⟩))) w1)
    (hd : o.dst = some N := by exact rfl) (hg : o.guard = none := by exact rfl)
    (hr : (execOp a.eval o).run P W = .ok (.value (.pointer (some ⟨W.heap.size, 0, none⟩))) (W.alloc (.cells cs t (0, 0))) := by first | (go_simp; done) | (go_simp; rfl)) : wpList P ops Q (o :: rest) a W := box_event hg hd hr h
theorem gL {oi : Oper} {a : Act} {w : World} (N : Option Tmp) {f : FuncId} {fn : Func} (hf : P.funcs[f]? = some fn) {as_ : Array Operand} {ts : Array TypeId} (args : Array Value)
    (h : Calls P f args w fun e w' => ∃ v, e = .returned v ∧ wpList P ops Q rest (a.put N v) w')
    (hd : oi.dst = N := by exact rfl) (hg : oi.guard = none := by exact rfl) (hname : (fn.name == "runtime.NumGoroutine") = false := by kernel_rfl) (hb : fn.body.isSome = true := by exact rfl)
    (hop : oi.op = .call { callee := .value (.func f), args := as_, argTypes := ts } := by exact rfl) (hargs : as_.map a.eval = args := by (try simp only [List.map_toArray, List.map_cons, List.map_nil]); first | done | rfl | (simp only [List.length_drop, List.length_take]; rfl)) : wpList P ops Q (oi :: rest) a w :=
  goesL_ N hd hg hf hname hb args hop hargs h
theorem gO {oi : Oper} {N : Option Tmp} {a : Act} {w : World} {K : Act → World → Prop} {f : FuncId} {fn : Func} (hf : P.funcs[f]? = some fn) {as_ : Array Operand} {ts : Array TypeId} (args : Array Value)
    (h : Calls P f args w fun e w' => ∃ v, e = .returned v ∧ K (a.put N v) w')
    (hname : (fn.name == "runtime.NumGoroutine") = false := by kernel_rfl) (hb : fn.body.isSome = true := by exact rfl)
    (hw : Region.wanted oi (yielded ops a.tmps) = true := by rfl) (hN : oi.dst = N := by exact rfl)
    (hop : oi.op = .call { callee := .value (.func f), args := as_, argTypes := ts } := by exact rfl) (hargs : as_.map a.eval = args := by (try simp only [List.map_toArray, List.map_cons, List.map_nil]); first | done | rfl | (simp only [List.length_drop, List.length_take]; rfl)) :
    if Region.wanted oi (yielded ops a.tmps) = true then Oper.wp P oi a w K Q else K (a.put N undef) w := goes_ hf hname hb args hw hN hop hargs h
end
/-- Which operations of a region have come up, as the bits of a number. -/
def uP (n m : Nat) : Array Bool := ⟨(List.range n).map fun i => m.testBit i⟩
section
variable {P : Program} {ops : Array Oper} {Q : Exit → Act → World → Prop} {md : Region.Mode} {S : World → Prop} {ds : List Nat}
theorem pP {oi : Oper} {v : Value} {fuel : Nat} {n m : Nat} {a a' : Act} {w : World} (i : Nat) (N : Nat)
    (h : wpAnyLast P md ops Q S ds fuel (uP n (m ||| 2 ^ i)) a' w)
    (hi : ops[i]? = some oi := by exact rfl) (hN : oi.dst = some N := by exact rfl)
    (hc : anyB md ops (uP n m) (uP n (m ||| 2 ^ i)) i = true := by exact any_of HT_.out (by kernel_rfl))
    (hv : Yields P ops oi v a := by exact Or.inl ⟨by rfl, by intro w'; go_simp; with_reducible rfl⟩)
    (hQ : ∀ c a w, Q (.panic c) (a.put oi.dst v) w → Q (.panic c) a w := by exact fun _ _ _ h => h)
    (ha : a.put (some N) v = a' := by simp only [Act.put, List.setIfInBounds_toArray, List.set_cons_zero, List.set_cons_succ, i64_w, i32_w]; rfl) :
    wpAnyLast P md ops Q S ds (fuel + 1) (uP n m) a w := pure_ (uP n (m ||| 2 ^ i)) hi hN hc hQ hv ha h
/-- The same where nothing asks for what it yields. -/
theorem pU {oi : Oper} {fuel : Nat} {n m : Nat} {a a' : Act} {w : World} (i : Nat) (N : Nat)
    (h : wpAnyLast P md ops Q S ds fuel (uP n (m ||| 2 ^ i)) a' w)
    (hi : ops[i]? = some oi := by exact rfl) (hN : oi.dst = some N := by exact rfl)
    (hc : anyB md ops (uP n m) (uP n (m ||| 2 ^ i)) i = true := by exact any_of HT_.out (by kernel_rfl))
    (hv : Yields P ops oi undef a := by exact Or.inr ⟨by rfl, rfl⟩)
    (hQ : ∀ c a w, Q (.panic c) (a.put oi.dst undef) w → Q (.panic c) a w := by exact fun _ _ _ h => h)
    (ha : a.put (some N) undef = a' := by simp only [Act.put, List.setIfInBounds_toArray, List.set_cons_zero, List.set_cons_succ, i64_w, i32_w]; rfl) :
    wpAnyLast P md ops Q S ds (fuel + 1) (uP n m) a w := pure_ (uP n (m ||| 2 ^ i)) hi hN hc hQ hv ha h
/-- A loading: hy tells what it yields where S holds. -/
theorem pT {oi : Oper} {v : Value} {fuel : Nat} {n m : Nat} {a a' : Act} {w : World} (i : Nat) (N : Nat)
    (h : wpAnyLast P md ops Q S ds fuel (uP n (m ||| 2 ^ i)) a' w)
    (hS : S w := by exact hHeld)
    (hi : ops[i]? = some oi := by exact rfl) (hN : oi.dst = some N := by exact rfl)
    (hc : takeB md ops ds (uP n m) (uP n (m ||| 2 ^ i)) i = true := by exact take_ofW HT_.out HW_.out (by kernel_rfl))
    (hv : YieldsIf P ops S oi v a := by exact Or.inl ⟨by rfl, by intro w' hs; (try simp only [cZ3, cZ4, and_assoc] at hs); (repeat (rcases hs with ⟨hs, hs_⟩; revert hs; have hs := hs_; clear hs_)); intros; go_simp; with_reducible rfl⟩)
    (hQ : ∀ c a w, Q (.panic c) (a.put oi.dst v) w → Q (.panic c) a w := by exact fun _ _ _ h => h)
    (ha : a.put (some N) v = a' := by simp only [Act.put, List.setIfInBounds_toArray, List.set_cons_zero, List.set_cons_succ, i64_w, i32_w]; rfl) :
    wpAnyLast P md ops Q S ds (fuel + 1) (uP n m) a w := take_ (uP n (m ||| 2 ^ i)) hi hN hc hQ hv hS ha h
/-- One operation alone may come up. -/
theorem pO {oi : Oper} {fuel : Nat} {n m : Nat} {a : Act} {w : World} (i : Nat) (N : Nat)
    (h : ∀ K : Act → World → Prop, Shut (∀ a' w', S w' → (S w' → wpAnyLast P md ops Q S ds fuel (uP n (m ||| 2 ^ i)) a' w') → K a' w') → if Region.wanted oi (yielded ops a.tmps) = true then Oper.wp P oi a w K Q else K (a.put (some N) undef) w)
    (hi : ops[i]? = some oi := by exact rfl) (hN : oi.dst = some N := by exact rfl)
    (hc : readyB md ops (uP n m) (uP n (m ||| 2 ^ i)) i = true := by exact one_of HT_.out (by kernel_rfl)) (hd : i ∉ ds := by decide) :
    wpAnyLast P md ops Q S ds (fuel + 1) (uP n m) a w := one_ (uP n (m ||| 2 ^ i)) hi hN hc hd h
theorem pL {oi : Oper} {fuel : Nat} {n m : Nat} {a : Act} {w : World} (i : Nat) (N : Option Tmp)
    (h : ∀ K : Act → World → Prop, Shut (∀ a' w', wpAnyLast P md ops Q S ds fuel (uP n (m ||| 2 ^ i)) a' w' → K a' w') → if Region.wanted oi (yielded ops a.tmps) = true then Oper.wp P oi a w K Q else K (a.put N undef) w)
    (hi : ops[i]? = some oi := by exact rfl) (hN : oi.dst = N := by exact rfl)
    (hc : readyB md ops (uP n m) (uP n (m ||| 2 ^ i)) i = true := by exact one_of HT_.out (by kernel_rfl)) (hd : i ∈ ds := by decide) :
    wpAnyLast P md ops Q S ds (fuel + 1) (uP n m) a w := last_ (uP n (m ||| 2 ^ i)) hi hN hc hd h
theorem pN {fuel : Nat} {l : Array Bool} {a a' : Act} {w : World} (h : wpAnyLast P md ops Q S ds fuel l a' w)
    (ha : a = a' := by simp only [Act.put, List.setIfInBounds_toArray, List.set_cons_zero, List.set_cons_succ, i64_w, i32_w]; rfl) : wpAnyLast P md ops Q S ds fuel l a w := norm_ ha h
theorem pD {l : Array Bool} {a : Act} {w : World} {n : Nat} (h : Q .normal a w) (hr : (Region.ready md ops l == []) = true := by exact done_of HT_.out (by kernel_rfl)) : wpAnyLast P md ops Q S ds n l a w := done_ hr h
theorem pS {id : Nat} {a : Act} {w : World} (n : Nat) (hS : S w.drew) (h : S w.drew → wpAnyLast P .any ops Q S ds n (uP n 0) a w.drew)
    (hm : P.follows .mixedOrders = true := by kernel_rfl) (hn : ops.size = n := by exact rfl) (hl : Array.replicate n false = uP n 0 := by kernel_rfl) : (Code.region id ops true).wp P Q a w := start_ (uP n 0) hm hn hl hS h
end
end Go.Proofs.YtbalmnkbodcigaaGreatDoor.ORc
namespace Go.Proofs.YtbalmnkbodcigaaGreatDoor.ORc
open Go.RowKit Go.Proofs.YtbalmnkbodcigaaGreatDoorW.PrintWords Go.Proofs.YtbalmnkbodcigaaGreatDoorW.PrintLast Go.Proofs.YtbalmnkbodcigaaGreatDoorW.PrintMore
attribute [local go_sem] max2_int min2_int max_two min_two max_three min_three max_four min_four   -- for this text's walks alone
set_option linter.unusedVariables false
set_option linter.unusedSimpArgs false

theorem eqA24 (d : Nat) (w : World) (x0 y0 : Bool) (x1 y1 : Int) (x2 y2 : Int) :
  (Op.equalIn (d + 2) 24 (.agg #[.bool x0, .int .u64 x1, .int .u64 x2]) (.agg #[.bool y0, .int .u64 y1, .int .u64 y2])).run Tryz.prog w = .ok (x0 == y0 && (x1 == y1 && (x2 == y2))) w := by
 refine eqA_of Tryz.underlying24 (by kernel_rfl) ?_
 refine eqf_cons (by rfl) (by go_simp; rfl) (by go_simp; rfl) (by go_simp) ?_
 refine eqf_cons (by rfl) (by go_simp; rfl) (by go_simp; rfl) (by go_simp) ?_
 exact eqf_last (by rfl) (by go_simp; rfl) (by go_simp; rfl) (by go_simp)
end Go.Proofs.YtbalmnkbodcigaaGreatDoor.ORc
namespace Go.Proofs.YtbalmnkbodcigaaGreatDoor.ORc
open Go.RowKit Go.Proofs.YtbalmnkbodcigaaGreatDoorW.PrintWords Go.Proofs.YtbalmnkbodcigaaGreatDoorW.PrintLast Go.Proofs.YtbalmnkbodcigaaGreatDoorW.PrintMore
attribute [local go_sem] max2_int min2_int max_two min_two max_three min_three max_four min_four   -- for this text's walks alone
set_option linter.unusedVariables false
set_option linter.unusedSimpArgs false

theorem eqA26 (d : Nat) (w : World) (x0 y0 : Bool) (x1 y1 : Int) (x2 y2 : Int) (x3 y3 : Int) :
  (Op.equalIn (d + 3) 26 (.agg #[.bool x0, .int .u64 x1, .int .u64 x2, .int .i64 x3]) (.agg #[.bool y0, .int .u64 y1, .int .u64 y2, .int .i64 y3])).run Tryz.prog w = .ok ((x0 == y0 && (x1 == y1 && (x2 == y2))) && (x3 == y3)) w := by
 refine eqA_of Tryz.underlying26 (by kernel_rfl) ?_
 refine eqf_cons (by rfl) (by go_simp) (by go_simp) (eqA24 (d + 0) w _ _ _ _ _ _) ?_
 exact eqf_last (by rfl) (by go_simp; rfl) (by go_simp; rfl) (by go_simp)
end Go.Proofs.YtbalmnkbodcigaaGreatDoor.ORc
namespace Go.Proofs.YtbalmnkbodcigaaGreatDoor.ORc
open Go.RowKit Go.Proofs.YtbalmnkbodcigaaGreatDoorW.PrintWords Go.Proofs.YtbalmnkbodcigaaGreatDoorW.PrintLast Go.Proofs.YtbalmnkbodcigaaGreatDoorW.PrintMore
attribute [local go_sem] max2_int min2_int max_two min_two max_three min_three max_four min_four   -- for this text's walks alone
set_option linter.unusedVariables false
set_option linter.unusedSimpArgs false

/-! ### ranges_wide: function 34 -/
def ranges_wide.f (a0_0 : Bool) (a0_1 : Int) (a0_2 : Int) : Option (Int) := if a0_0 = true then (some 128) else (some 32)
set_option maxHeartbeats 8000000 in
set_option maxRecDepth 100000 in
theorem ranges_wide.calls (a0_0 : Bool) (a0_1 : Int) (a0_2 : Int) (r : Int) (w : World) (h : ranges_wide.f a0_0 a0_1 a0_2 = some r) :
  Calls Tryz.prog 34 #[.agg #[.bool a0_0, .int .u64 a0_1, .int .u64 a0_2]] w fun e w' => e = .returned (.int .i64 r) ∧ Below w.heap.size w w' := by
 have hu24 := Tryz.underlying24
 have HB := aM (Below.refl w.heap.size w)
 have H : (if a0_0 = true then (some 128) else (some 32)) = some r := h
 clear h
 by_cases c2 : a0_0 = true
 ·subst c2
  rw [if_pos rfl] at H
  obtain rfl := Option.some.inj H
  go_enter Tryz.func34, Tryz.ntmps34
  go_wp2_with (first | ((with_reducible refine gD 1 rfl ?_); refine bX 1 #[.bool true, .int .u64 a0_1, .int .u64 a0_2] 24 ?_; intro gb101 hg w3 hbox hb; have BK101 := aM hbox; have GW101 := gS hg HB.out; have GE101 := GW101; replace HB := bS HB.out hb; clear hb hbox hg; obtain ⟨hcz4_0, hcz4_1, hcz4_2, hfz4_0, hfz4_1, hfz4_2⟩ := kY3 BK101.out))
  go_ret
  exact ⟨tE, tB HB.out⟩
 ·replace c2 := Bool.eq_false_iff.mpr c2
  subst c2
  rw [if_neg (show ¬ (false = true) by decide)] at H
  obtain rfl := Option.some.inj H
  go_enter Tryz.func34, Tryz.ntmps34
  go_wp2_with (first | ((with_reducible refine gD 1 rfl ?_); refine bX 1 #[.bool false, .int .u64 a0_1, .int .u64 a0_2] 24 ?_; intro gb101 hg w5 hbox hb; have BK101 := aM hbox; have GW101 := gS hg HB.out; have GE101 := GW101; replace HB := bS HB.out hb; clear hb hbox hg; obtain ⟨hcz6_0, hcz6_1, hcz6_2, hfz6_0, hfz6_1, hfz6_2⟩ := kY3 BK101.out))
  go_ret
  exact ⟨tE, tB HB.out⟩

/-! ### addr_Check: function 36 -/
def addr_Check.f (a0_0 : Bool) (a0_1 : Int) (a0_2 : Int) : Option (Int) := if a0_0 = true then (some 0) else (if a0_1 = 0 then (if (a0_2 / 4294967296) = 0 then (some 0) else (some 2)) else (some 2))
set_option maxHeartbeats 8000000 in
set_option maxRecDepth 100000 in
theorem addr_Check.calls (a0_0 : Bool) (a0_1 : Int) (a0_2 : Int) (r : Int) (w : World) (h : addr_Check.f a0_0 a0_1 a0_2 = some r) :
  Calls Tryz.prog 36 #[.agg #[.bool a0_0, .int .u64 a0_1, .int .u64 a0_2]] w fun e w' => e = .returned (.int .i64 r) ∧ Below w.heap.size w w' := by
 have hu24 := Tryz.underlying24
 have HB := aM (Below.refl w.heap.size w)
 have H : (if a0_0 = true then (some 0) else (if a0_1 = 0 then (if (a0_2 / 4294967296) = 0 then (some 0) else (some 2)) else (some 2))) = some r := h
 clear h
 by_cases c2 : a0_0 = true
 ·subst c2
  rw [if_pos rfl] at H
  obtain rfl := Option.some.inj H
  go_enter Tryz.func36, Tryz.ntmps36
  go_wp2_with (first | ((with_reducible refine gD 1 rfl ?_); refine bX 1 #[.bool true, .int .u64 a0_1, .int .u64 a0_2] 24 ?_; intro gb102 hg w3 hbox hb; have BK102 := aM hbox; have GW102 := gS hg HB.out; have GE102 := GW102; replace HB := bS HB.out hb; clear hb hbox hg; obtain ⟨hcz4_0, hcz4_1, hcz4_2, hfz4_0, hfz4_1, hfz4_2⟩ := kY3 BK102.out))
  go_ret
  exact ⟨tE, tB HB.out⟩
 ·replace c2 := Bool.eq_false_iff.mpr c2
  subst c2
  rw [if_neg (show ¬ (false = true) by decide)] at H
  by_cases c5 : a0_1 = 0
  ·rw [if_pos c5] at H
   have c5b0 : (a0_1 == 0) = true := beq_iff_eq.mpr c5
   have c5b1 : (a0_1 != 0) = false := bne_eq_false_iff_eq.mpr c5
   clear c5
   by_cases c6 : (a0_2 / 4294967296) = 0
   ·rw [if_pos c6] at H
    have c6b0 : ((a0_2 / 4294967296) == 0) = true := beq_iff_eq.mpr c6
    have c6b1 : ((a0_2 / 4294967296) != 0) = false := bne_eq_false_iff_eq.mpr c6
    clear c6
    obtain rfl := Option.some.inj H
    go_enter Tryz.func36, Tryz.ntmps36
    go_wp2_with (first | ((with_reducible refine gD 1 rfl ?_); refine bX 1 #[.bool false, .int .u64 a0_1, .int .u64 a0_2] 24 ?_; intro gb102 hg w7 hbox hb; have BK102 := aM hbox; have GW102 := gS hg HB.out; have GE102 := GW102; replace HB := bS HB.out hb; clear hb hbox hg; obtain ⟨hcz8_0, hcz8_1, hcz8_2, hfz8_0, hfz8_1, hfz8_2⟩ := kY3 BK102.out))
    go_ret
    exact ⟨tE, tB HB.out⟩
   ·rw [if_neg c6] at H
    have c6b0 : ((a0_2 / 4294967296) == 0) = false := beq_eq_false_iff_ne.mpr c6
    have c6b1 : ((a0_2 / 4294967296) != 0) = true := bne_iff_ne.mpr c6
    obtain rfl := Option.some.inj H
    go_enter Tryz.func36, Tryz.ntmps36
    go_wp2_with (first | ((with_reducible refine gD 1 rfl ?_); refine bX 1 #[.bool false, .int .u64 a0_1, .int .u64 a0_2] 24 ?_; intro gb102 hg w9 hbox hb; have BK102 := aM hbox; have GW102 := gS hg HB.out; have GE102 := GW102; replace HB := bS HB.out hb; clear hb hbox hg; obtain ⟨hcz10_0, hcz10_1, hcz10_2, hfz10_0, hfz10_1, hfz10_2⟩ := kY3 BK102.out))
    go_ret
    exact ⟨tE, tB HB.out⟩
  ·rw [if_neg c5] at H
   have c5b0 : (a0_1 == 0) = false := beq_eq_false_iff_ne.mpr c5
   have c5b1 : (a0_1 != 0) = true := bne_iff_ne.mpr c5
   obtain rfl := Option.some.inj H
   go_enter Tryz.func36, Tryz.ntmps36
   go_wp2_with (first | ((with_reducible refine gD 1 rfl ?_); refine bX 1 #[.bool false, .int .u64 a0_1, .int .u64 a0_2] 24 ?_; intro gb102 hg w11 hbox hb; have BK102 := aM hbox; have GW102 := gS hg HB.out; have GE102 := GW102; replace HB := bS HB.out hb; clear hb hbox hg; obtain ⟨hcz12_0, hcz12_1, hcz12_2, hfz12_0, hfz12_1, hfz12_2⟩ := kY3 BK102.out))
   go_ret
   exact ⟨tE, tB HB.out⟩

/-! ### ranges_mask: function 62 -/
def ranges_mask.f (a0 : Int) (a1 : Int) : Option (Int) := if a0 ≤ 0 then (some 0) else (if a0 ≥ a1 then (if 0 ≤ a1 then (some (IntKind.u64.wrap ((shl .u64 1 a1) - 1))) else (none)) else (if 0 ≤ a0 then (if 0 ≤ (wrap64 (a1 - a0)) then (some (shl .u64 (IntKind.u64.wrap ((shl .u64 1 a0) - 1)) (wrap64 (a1 - a0)))) else (none)) else (none)))
set_option maxHeartbeats 8000000 in
set_option maxRecDepth 100000 in
theorem ranges_mask.calls (a0 : Int) (a1 : Int) (r : Int) (w : World) (h : ranges_mask.f a0 a1 = some r) :
  Calls Tryz.prog 62 #[.int .i64 a0, .int .i64 a1] w fun e w' => e = .returned (.int .u64 r) ∧ Drawn0 w w' := by
 have H : (if a0 ≤ 0 then (some 0) else (if a0 ≥ a1 then (if 0 ≤ a1 then (some (IntKind.u64.wrap ((shl .u64 1 a1) - 1))) else (none)) else (if 0 ≤ a0 then (if 0 ≤ (wrap64 (a1 - a0)) then (some (shl .u64 (IntKind.u64.wrap ((shl .u64 1 a0) - 1)) (wrap64 (a1 - a0)))) else (none)) else (none)))) = some r := h
 clear h
 by_cases c3 : a0 ≤ 0
 ·rw [if_pos c3] at H
  have c3b0 : decide (a0 ≤ 0) = true := decide_eq_true c3
  clear c3
  obtain rfl := Option.some.inj H
  go_enter Tryz.func62, Tryz.ntmps62
  go_wp2
  go_ret
  exact ⟨by first | rfl | (simp; done) | (simp [*]; done), by repeat (first | exact Drawn0.refl _ | apply Drawn0.step)⟩
 ·rw [if_neg c3] at H
  have c3b0 : decide (a0 ≤ 0) = false := decide_eq_false c3
  clear c3
  by_cases c4 : a0 ≥ a1
  ·rw [if_pos c4] at H
   have c4b0 : decide (a1 ≤ a0) = true := decide_eq_true c4
   clear c4
   by_cases c5 : 0 ≤ a1
   ·rw [if_pos c5] at H
    have c5b0 := eq_true c5
    have c5b1 : decide (0 ≤ a1) = true := decide_eq_true c5
    clear c5
    obtain ⟨ji6, hji6⟩ : ∃ j_ : Int, (shl .u64 1 a1) = j_ := ⟨_, rfl⟩
    replace H : (some (IntKind.u64.wrap ((ji6) - 1))) = some r := by first | (rw [hji6] at H; exact H) | (simp only [hji6] at H ⊢; exact H)
    have hji6_ : (IntKind.u64.wrap (1 * 2 ^ min a1.toNat 64)) = ji6 := hji6
    have hji6z : a1 ≤ 64 → (IntKind.u64.wrap (1 * 2 ^ a1.toNat)) = ji6 := shl_small hji6
    have hji6u : (IntKind.u64.wrap (2 ^ min a1.toNat 64)) = ji6 := by have h_ := hji6_; rw [Int.one_mul] at h_; exact h_
    have hji6v : a1 ≤ 64 → (IntKind.u64.wrap (2 ^ a1.toNat)) = ji6 := fun hle_ => by have h_ := hji6z hle_; rw [Int.one_mul] at h_; exact h_
    obtain rfl := Option.some.inj H
    go_enter Tryz.func62, Tryz.ntmps62
    go_wp2
    go_ret
    exact ⟨by first | rfl | (simp; done) | (simp only [← hji6] <;> (first | rfl | simp)) | (simp [*]; done), by repeat (first | exact Drawn0.refl _ | apply Drawn0.step)⟩
   ·rw [if_neg c5] at H
    exact absurd H (by simp)
  ·rw [if_neg c4] at H
   have c4b0 : decide (a1 ≤ a0) = false := decide_eq_false c4
   clear c4
   by_cases c7 : 0 ≤ a0
   ·rw [if_pos c7] at H
    have c7b0 := eq_true c7
    have c7b1 : decide (0 ≤ a0) = true := decide_eq_true c7
    clear c7
    obtain ⟨ji8, hji8⟩ : ∃ j_ : Int, (shl .u64 1 a0) = j_ := ⟨_, rfl⟩
    replace H : (if 0 ≤ (wrap64 (a1 - a0)) then (some (shl .u64 (IntKind.u64.wrap ((ji8) - 1)) (wrap64 (a1 - a0)))) else (none)) = some r := by first | (rw [hji8] at H; exact H) | (simp only [hji8] at H ⊢; exact H)
    have hji8_ : (IntKind.u64.wrap (1 * 2 ^ min a0.toNat 64)) = ji8 := hji8
    have hji8z : a0 ≤ 64 → (IntKind.u64.wrap (1 * 2 ^ a0.toNat)) = ji8 := shl_small hji8
    have hji8u : (IntKind.u64.wrap (2 ^ min a0.toNat 64)) = ji8 := by have h_ := hji8_; rw [Int.one_mul] at h_; exact h_
    have hji8v : a0 ≤ 64 → (IntKind.u64.wrap (2 ^ a0.toNat)) = ji8 := fun hle_ => by have h_ := hji8z hle_; rw [Int.one_mul] at h_; exact h_
    obtain ⟨ji9, hji9⟩ : ∃ j_ : Int, (wrap64 (a1 - a0)) = j_ := ⟨_, rfl⟩
    replace H : (if 0 ≤ (ji9) then (some (shl .u64 (IntKind.u64.wrap ((ji8) - 1)) (ji9))) else (none)) = some r := by first | (rw [hji9] at H; exact H) | (simp only [hji9] at H ⊢; exact H)
    have hji9w : (IntKind.i64.wrap (a1 - a0)) = ji9 := (i64_w _).trans hji9
    by_cases c10 : 0 ≤ (ji9)
    ·rw [if_pos c10] at H
     have c10b0 := eq_true c10
     have c10b1 : decide (0 ≤ (ji9)) = true := decide_eq_true c10
     clear c10
     obtain ⟨ji11, hji11⟩ : ∃ j_ : Int, (shl .u64 (IntKind.u64.wrap ((ji8) - 1)) (ji9)) = j_ := ⟨_, rfl⟩
     replace H : (some ji11) = some r := by first | (rw [hji11] at H; exact H) | (simp only [hji11] at H ⊢; exact H)
     have hji11_ : (IntKind.u64.wrap ((IntKind.u64.wrap ((ji8) - 1)) * 2 ^ min (ji9).toNat 64)) = ji11 := hji11
     have hji11z : (ji9) ≤ 64 → (IntKind.u64.wrap ((IntKind.u64.wrap ((ji8) - 1)) * 2 ^ (ji9).toNat)) = ji11 := shl_small hji11
     obtain rfl := Option.some.inj H
     go_enter Tryz.func62, Tryz.ntmps62
     go_wp2
     go_ret
     exact ⟨by first | rfl | (simp; done) | (simp only [← hji8, ← hji9, ← hji11] <;> (first | rfl | simp)) | (simp [*]; done), by repeat (first | exact Drawn0.refl _ | apply Drawn0.step)⟩
    ·rw [if_neg c10] at H
     exact absurd H (by simp)
   ·rw [if_neg c7] at H
    exact absurd H (by simp)

/-! ### ranges_head: function 37 -/
def ranges_head.f (a0_0 : Bool) (a0_1 : Int) (a0_2 : Int) (a1 : Int) : Option (Bool × Int × Int) := if a0_0 = true then ((ranges_mask.f a1 64).bind fun t105 => ((ranges_mask.f (wrap64 (a1 - 64)) 64).bind fun t106 => (some (a0_0, Go.bits .and .u64 a0_1 t105, Go.bits .and .u64 a0_2 t106)))) else ((ranges_mask.f a1 32).bind fun t107 => (some (a0_0, a0_1, Go.bits .and .u64 a0_2 t107)))
def ranges_head.T5 : Bool × List (List Nat × List Nat) := (true, [([], []), ([0], [0]), ([], []), ([2], [2]), ([3], [3]), ([1, 4], [1, 4]), ([0, 1, 2, 3, 4, 5], []), ([6, 5, 4, 0, 1, 2, 3, 4, 5], [5, 6])])
def ranges_head.B5 : List Nat := [0, 1, 0, 4, 12, 31, 63, 127]
theorem ranges_head.tab5 : rtab .any (opsOf Tryz.f37 5) = ranges_head.T5 := by kernel_rfl
theorem ranges_head.bits5 : waitsOk ranges_head.T5.2 ranges_head.B5 = true := by kernel_rfl
set_option maxHeartbeats 8000000 in
set_option maxRecDepth 100000 in
theorem ranges_head.calls (a0_0 : Bool) (a0_1 : Int) (a0_2 : Int) (a1 : Int) (r1 : Bool) (r2 : Int) (r3 : Int) (w : World) (h : ranges_head.f a0_0 a0_1 a0_2 a1 = some (r1, r2, r3)) :
  Calls Tryz.prog 37 #[.agg #[.bool a0_0, .int .u64 a0_1, .int .u64 a0_2], .int .i64 a1] w fun e w' => e = .returned (.agg #[.bool r1, .int .u64 r2, .int .u64 r3]) ∧ Below w.heap.size w w' := by
 have hu24 := Tryz.underlying24
 have HB := aM (Below.refl w.heap.size w)
 have H : (if a0_0 = true then ((ranges_mask.f a1 64).bind fun t105 => ((ranges_mask.f (wrap64 (a1 - 64)) 64).bind fun t106 => (some (a0_0, Go.bits .and .u64 a0_1 t105, Go.bits .and .u64 a0_2 t106)))) else ((ranges_mask.f a1 32).bind fun t107 => (some (a0_0, a0_1, Go.bits .and .u64 a0_2 t107)))) = some (r1, r2, r3) := h
 clear h
 by_cases c3 : a0_0 = true
 ·subst c3
  rw [if_pos rfl] at H
  obtain ⟨t105, A4, H⟩ := oB H
  try dsimp only at H
  obtain ⟨t106, A5, H⟩ := oB H
  try dsimp only at H
  simp only [Option.some.injEq, Prod.mk.injEq] at H
  obtain ⟨rfl, rfl, rfl⟩ := H
  go_enter Tryz.func37, Tryz.ntmps37
  try go_wp2_with (first | ((with_reducible refine gD 2 rfl ?_); refine bX 2 #[.bool true, .int .u64 a0_1, .int .u64 a0_2] 24 ?_; intro gb103 hg w6 hbox hb; have BK103 := aM hbox; have GW103 := gS hg HB.out; have GE103 := GW103; replace HB := bS HB.out hb; clear hb hbox hg) | ((with_reducible refine gD 4 rfl ?_); refine bX 4 #[.bool false, .int .u64 0, .int .u64 0] 24 ?_; intro gb104 hg w7 hbox hb; have BK104 := aM hbox; have GW104 := gS hg HB.out; have GE104 := GW104; have NB103_104 := nB hg BK103.out; have NB104_103 := nS (nB hg BK103.out); replace BK103 := kB BK103.out hb; replace HB := bS HB.out hb; clear hb hbox hg; have hnb8 := NB103_104.out; have hnc8 := NB104_103.out; obtain ⟨hcz9_0, hcz9_1, hcz9_2, hfz9_0, hfz9_1, hfz9_2⟩ := kY3 BK103.out))
  replace BK103 := aM (kD BK103.out)
  replace BK104 := aM (kD BK104.out)
  replace HB := aM (bD HB.out)
  refine pS 7 (S := fun w' => cZ3 w' gb103 (.bool true) (.int .u64 a0_1) (.int .u64 a0_2)) (ds := [6]) (kZ3 BK103.out) (fun hHeld => ?_)
  generalize w7.drew = w10 at BK103 BK104 HB hHeld ⊢
  refine pure_ (i := 0) (N := some 15) (v := ?_) (a' := ?_) #[Yy,Nn,Nn,Nn,Nn,Nn,Nn] rfl rfl (by kernel_rfl) (fun _ _ _ h => h) (Or.inl ⟨by rfl, ?_⟩) ?_ ?_
  rotate_left
  ·intro w'
   go_simp
   with_reducible rfl
  rotate_left
  ·simp only [Act.put, List.setIfInBounds_toArray, List.set_cons_zero, List.set_cons_succ, i64_w, i32_w]
   rfl
  refine pure_ (i := 2) (N := some 17) (v := ?_) (a' := ?_) #[Yy,Nn,Yy,Nn,Nn,Nn,Nn] rfl rfl (by kernel_rfl) (fun _ _ _ h => h) (Or.inl ⟨by rfl, ?_⟩) ?_ ?_
  rotate_left
  ·intro w'
   go_simp
   with_reducible rfl
  rotate_left
  ·simp only [Act.put, List.setIfInBounds_toArray, List.set_cons_zero, List.set_cons_succ, i64_w, i32_w]
   rfl
  refine take_ (i := 1) (N := some 16) (v := ?_) (a' := ?_) #[Yy,Yy,Yy,Nn,Nn,Nn,Nn] rfl rfl (by kernel_rfl) (fun _ _ _ h => h) (Or.inl ⟨by rfl, ?_⟩) hHeld ?_ ?_
  rotate_left
  ·rintro w' ⟨s0, s1, s2⟩
   go_simp
   with_reducible rfl
  rotate_left
  ·simp only [Act.put, List.setIfInBounds_toArray, List.set_cons_zero, List.set_cons_succ, i64_w, i32_w]
   rfl
  refine one_ (i := 3) (N := some 18) #[Yy,Yy,Yy,Yy,Nn,Nn,Nn] rfl rfl (by kernel_rfl) (by decide) (fun K hK => ?_)
  refine gO Tryz.func62 #[.int .i64 a1, .int .i64 64] ?_
  with_reducible refine (ranges_mask.calls a1 64 t105 _ A4.out).mono ?_
  rintro e w' ⟨rfl, ⟨nd, rfl⟩⟩
  refine ⟨_, rfl, ?_⟩
  refine hK.out _ _ (kZ3 BK103.out) (fun hHeld => ?_)
  clear hK K
  refine pN ?_
  refine pure_ (i := 4) (N := some 19) (v := ?_) (a' := ?_) #[Yy,Yy,Yy,Yy,Yy,Nn,Nn] rfl rfl (by kernel_rfl) (fun _ _ _ h => h) (Or.inl ⟨by rfl, ?_⟩) ?_ ?_
  rotate_left
  ·intro w'
   go_simp
   with_reducible rfl
  rotate_left
  ·simp only [Act.put, List.setIfInBounds_toArray, List.set_cons_zero, List.set_cons_succ, i64_w, i32_w]
   rfl
  refine pure_ (i := 5) (N := some 20) (v := ?_) (a' := ?_) #[Yy,Yy,Yy,Yy,Yy,Yy,Nn] rfl rfl (by kernel_rfl) (fun _ _ _ h => h) (Or.inl ⟨by rfl, ?_⟩) ?_ ?_
  rotate_left
  ·intro w'
   go_simp
   with_reducible rfl
  rotate_left
  ·simp only [Act.put, List.setIfInBounds_toArray, List.set_cons_zero, List.set_cons_succ, i64_w, i32_w]
   rfl
  refine last_ (i := 6) (N := none) #[Yy,Yy,Yy,Yy,Yy,Yy,Yy] rfl rfl (by kernel_rfl) (by decide) (fun K hK => ?_)
  have hs11 : w10.cell? ⟨gb103, 1, none⟩ = some (.int .u64 a0_1) := (kC BK103.out 1).trans rfl
  have hfs11 := kF BK103.out 1
  have hns11_1 := NB104_103.out
  have hms11_1 := NB103_104.out
  refine skip_ (w1 := ?_) (by rfl) rfl ?_ ?_
  rotate_left
  ·go_simp
   rfl
  refine hK.out _ _ ?_
  clear hK K
  refine done_ (by kernel_rfl) ?_
  try go_wp2
  have n0_ : Aside0 ((w10.setCell ⟨gb103, 1, none⟩ (.int .u64 (Go.bits .and .u64 a0_1 t105))).heap[gb103]? = some (.cells #[.bool true, .int .u64 (Go.bits .and .u64 a0_1 t105), .int .u64 a0_2] 24 (0, 0))) := ⟨tP BK103.out⟩
  have n1_ : Aside0 ((w10.setCell ⟨gb103, 1, none⟩ (.int .u64 (Go.bits .and .u64 a0_1 t105))).heap[gb104]? = some (.cells #[.bool false, .int .u64 0, .int .u64 0] 24 (0, 0))) := ⟨tP BK104.out⟩
  have n2_ : Aside0 (Below w.heap.size w (w10.setCell ⟨gb103, 1, none⟩ (.int .u64 (Go.bits .and .u64 a0_1 t105)))) := ⟨tB HB.out⟩
  (try clear BK103)
  (try clear BK104)
  (try clear HB)
  (try (repeat rw [setCell_drewN_]))
  generalize (w10.setCell ⟨gb103, 1, none⟩ (.int .u64 (Go.bits .and .u64 a0_1 t105))) = w12 at n0_ n1_ n2_ ⊢
  have BK103 := n0_
  have BK104 := n1_
  have HB := n2_
  clear n0_ n1_ n2_
  (try (rw [drewN_self w12]; generalize hq_ : World.drewN w12 _ = w12; have n0_ : Aside0 (w12.heap[gb103]? = some (.cells #[.bool true, .int .u64 (Go.bits .and .u64 a0_1 t105), .int .u64 a0_2] 24 (0, 0))) := ⟨by rw [← hq_]; exact (tK BK103.out)⟩; have n1_ : Aside0 (w12.heap[gb104]? = some (.cells #[.bool false, .int .u64 0, .int .u64 0] 24 (0, 0))) := ⟨by rw [← hq_]; exact (tK BK104.out)⟩; have n2_ : Aside0 (Below w.heap.size w w12) := ⟨by rw [← hq_]; exact (tB HB.out)⟩; clear BK103 BK104 HB hq_; have BK103 := n0_; have BK104 := n1_; have HB := n2_; clear n0_ n1_ n2_))
  replace BK103 := aM (kD BK103.out)
  replace BK104 := aM (kD BK104.out)
  replace HB := aM (bD HB.out)
  refine pS 8 (S := fun w' => cZ3 w' gb103 (.bool true) (.int .u64 (Go.bits .and .u64 a0_1 t105)) (.int .u64 a0_2)) (ds := [7]) (kZ3 BK103.out) (fun hHeld => ?_); refine with_tabW ranges_head.tab5 ranges_head.bits5 (fun HT_ HW_ => ?_)
  generalize w12.drew = w13 at BK103 BK104 HB hHeld ⊢
  refine pP 0 21 ?_
  refine pP 2 23 ?_
  refine pP 3 24 ?_
  refine pT 1 22 ?_
  refine pO 4 25 (fun K hK => ?_)
  refine gO Tryz.func62 #[.int .i64 (wrap64 (a1 - 64)), .int .i64 64] ?_
  with_reducible refine (ranges_mask.calls (wrap64 (a1 - 64)) 64 t106 _ A5.out).mono ?_
  rintro e w' ⟨rfl, ⟨nd, rfl⟩⟩
  refine ⟨_, rfl, ?_⟩
  refine hK.out _ _ (kZ3 BK103.out) (fun hHeld => ?_)
  clear hK K
  refine pN ?_
  refine pP 5 26 ?_
  refine pP 6 27 ?_
  refine pL 7 none (fun K hK => ?_)
  have hs14 : w13.cell? ⟨gb103, 2, none⟩ = some (.int .u64 a0_2) := (kC BK103.out 2).trans rfl
  have hfs14 := kF BK103.out 2
  have hns14_1 := NB104_103.out
  have hms14_1 := NB103_104.out
  refine skip_ (w1 := ?_) (by rfl) rfl ?_ ?_
  rotate_left
  ·go_simp
   rfl
  refine hK.out _ _ ?_
  clear hK K
  refine pD ?_
  obtain ⟨hcz15_0, hcz15_1, hcz15_2, hfz15_0, hfz15_1, hfz15_2⟩ := kY3 BK103.out
  obtain ⟨hcz16_0, hcz16_1, hcz16_2, hfz16_0, hfz16_1, hfz16_2⟩ := kY3 BK104.out
  try go_wp2
  refine bodyPost_ret (results_cell_row rfl _ _ gb104 24 #[.bool true, .int .u64 (Go.bits .and .u64 a0_1 t105), .int .u64 (Go.bits .and .u64 a0_2 t106)] (0, 0) _ rfl (tP BK104.out) Tryz.underlying24 rfl (by kernel_rfl)) rfl ?_
  exact ⟨tE, tB HB.out⟩
 ·replace c3 := Bool.eq_false_iff.mpr c3
  subst c3
  rw [if_neg (show ¬ (false = true) by decide)] at H
  obtain ⟨t107, A17, H⟩ := oB H
  try dsimp only at H
  simp only [Option.some.injEq, Prod.mk.injEq] at H
  obtain ⟨rfl, rfl, rfl⟩ := H
  go_enter Tryz.func37, Tryz.ntmps37
  try go_wp2_with (first | ((with_reducible refine gD 2 rfl ?_); refine bX 2 #[.bool false, .int .u64 a0_1, .int .u64 a0_2] 24 ?_; intro gb103 hg w18 hbox hb; have BK103 := aM hbox; have GW103 := gS hg HB.out; have GE103 := GW103; replace HB := bS HB.out hb; clear hb hbox hg) | ((with_reducible refine gD 4 rfl ?_); refine bX 4 #[.bool false, .int .u64 0, .int .u64 0] 24 ?_; intro gb104 hg w19 hbox hb; have BK104 := aM hbox; have GW104 := gS hg HB.out; have GE104 := GW104; have NB103_104 := nB hg BK103.out; have NB104_103 := nS (nB hg BK103.out); replace BK103 := kB BK103.out hb; replace HB := bS HB.out hb; clear hb hbox hg; have hnb20 := NB103_104.out; have hnc20 := NB104_103.out; obtain ⟨hcz21_0, hcz21_1, hcz21_2, hfz21_0, hfz21_1, hfz21_2⟩ := kY3 BK103.out))
  replace BK103 := aM (kD BK103.out)
  replace BK104 := aM (kD BK104.out)
  replace HB := aM (bD HB.out)
  refine pS 7 (S := fun w' => cZ3 w' gb103 (.bool false) (.int .u64 a0_1) (.int .u64 a0_2)) (ds := [6]) (kZ3 BK103.out) (fun hHeld => ?_)
  generalize w19.drew = w22 at BK103 BK104 HB hHeld ⊢
  refine pure_ (i := 0) (N := some 8) (v := ?_) (a' := ?_) #[Yy,Nn,Nn,Nn,Nn,Nn,Nn] rfl rfl (by kernel_rfl) (fun _ _ _ h => h) (Or.inl ⟨by rfl, ?_⟩) ?_ ?_
  rotate_left
  ·intro w'
   go_simp
   with_reducible rfl
  rotate_left
  ·simp only [Act.put, List.setIfInBounds_toArray, List.set_cons_zero, List.set_cons_succ, i64_w, i32_w]
   rfl
  refine pure_ (i := 2) (N := some 10) (v := ?_) (a' := ?_) #[Yy,Nn,Yy,Nn,Nn,Nn,Nn] rfl rfl (by kernel_rfl) (fun _ _ _ h => h) (Or.inl ⟨by rfl, ?_⟩) ?_ ?_
  rotate_left
  ·intro w'
   go_simp
   with_reducible rfl
  rotate_left
  ·simp only [Act.put, List.setIfInBounds_toArray, List.set_cons_zero, List.set_cons_succ, i64_w, i32_w]
   rfl
  refine take_ (i := 1) (N := some 9) (v := ?_) (a' := ?_) #[Yy,Yy,Yy,Nn,Nn,Nn,Nn] rfl rfl (by kernel_rfl) (fun _ _ _ h => h) (Or.inl ⟨by rfl, ?_⟩) hHeld ?_ ?_
  rotate_left
  ·rintro w' ⟨s0, s1, s2⟩
   go_simp
   with_reducible rfl
  rotate_left
  ·simp only [Act.put, List.setIfInBounds_toArray, List.set_cons_zero, List.set_cons_succ, i64_w, i32_w]
   rfl
  refine one_ (i := 3) (N := some 11) #[Yy,Yy,Yy,Yy,Nn,Nn,Nn] rfl rfl (by kernel_rfl) (by decide) (fun K hK => ?_)
  refine gO Tryz.func62 #[.int .i64 a1, .int .i64 32] ?_
  with_reducible refine (ranges_mask.calls a1 32 t107 _ A17.out).mono ?_
  rintro e w' ⟨rfl, ⟨nd, rfl⟩⟩
  refine ⟨_, rfl, ?_⟩
  refine hK.out _ _ (kZ3 BK103.out) (fun hHeld => ?_)
  clear hK K
  refine pN ?_
  refine pure_ (i := 4) (N := some 12) (v := ?_) (a' := ?_) #[Yy,Yy,Yy,Yy,Yy,Nn,Nn] rfl rfl (by kernel_rfl) (fun _ _ _ h => h) (Or.inl ⟨by rfl, ?_⟩) ?_ ?_
  rotate_left
  ·intro w'
   go_simp
   with_reducible rfl
  rotate_left
  ·simp only [Act.put, List.setIfInBounds_toArray, List.set_cons_zero, List.set_cons_succ, i64_w, i32_w]
   rfl
  refine pure_ (i := 5) (N := some 13) (v := ?_) (a' := ?_) #[Yy,Yy,Yy,Yy,Yy,Yy,Nn] rfl rfl (by kernel_rfl) (fun _ _ _ h => h) (Or.inl ⟨by rfl, ?_⟩) ?_ ?_
  rotate_left
  ·intro w'
   go_simp
   with_reducible rfl
  rotate_left
  ·simp only [Act.put, List.setIfInBounds_toArray, List.set_cons_zero, List.set_cons_succ, i64_w, i32_w]
   rfl
  refine last_ (i := 6) (N := none) #[Yy,Yy,Yy,Yy,Yy,Yy,Yy] rfl rfl (by kernel_rfl) (by decide) (fun K hK => ?_)
  have hs23 : w22.cell? ⟨gb103, 2, none⟩ = some (.int .u64 a0_2) := (kC BK103.out 2).trans rfl
  have hfs23 := kF BK103.out 2
  have hns23_1 := NB104_103.out
  have hms23_1 := NB103_104.out
  refine skip_ (w1 := ?_) (by rfl) rfl ?_ ?_
  rotate_left
  ·go_simp
   rfl
  refine hK.out _ _ ?_
  clear hK K
  refine done_ (by kernel_rfl) ?_
  obtain ⟨hcz24_0, hcz24_1, hcz24_2, hfz24_0, hfz24_1, hfz24_2⟩ := kY3 BK103.out
  obtain ⟨hcz25_0, hcz25_1, hcz25_2, hfz25_0, hfz25_1, hfz25_2⟩ := kY3 BK104.out
  try go_wp2
  refine bodyPost_ret (results_cell_row rfl _ _ gb104 24 #[.bool false, .int .u64 a0_1, .int .u64 (Go.bits .and .u64 a0_2 t107)] (0, 0) _ rfl (tP BK104.out) Tryz.underlying24 rfl (by kernel_rfl)) rfl ?_
  exact ⟨tE, tB HB.out⟩

end Go.Proofs.YtbalmnkbodcigaaGreatDoor.ORc
namespace Go.Proofs.YtbalmnkbodcigaaGreatDoor.ORc
open Go.RowKit Go.Proofs.YtbalmnkbodcigaaGreatDoorW.PrintWords Go.Proofs.YtbalmnkbodcigaaGreatDoorW.PrintLast Go.Proofs.YtbalmnkbodcigaaGreatDoorW.PrintMore
attribute [local go_sem] max2_int min2_int max_two min_two max_three min_three max_four min_four   -- for this text's walks alone
set_option linter.unusedVariables false
set_option linter.unusedSimpArgs false

attribute [local go_sem high] eqA24
/-! ### ranges_Check: function 15 -/
def ranges_Check.f (a0_0 : Bool) (a0_1 : Int) (a0_2 : Int) (a0_3 : Int) : Option (Int) := (addr_Check.f a0_0 a0_1 a0_2).bind fun t109 => (if t109 = 0 then (if a0_3 < 0 then (some 2) else ((ranges_wide.f a0_0 a0_1 a0_2).bind fun t110 => (if a0_3 > t110 then (some 2) else ((ranges_head.f a0_0 a0_1 a0_2 a0_3).bind fun bt111 => (if (!(bt111.1 == a0_0) || (!(bt111.2.1 == a0_1) || (!(bt111.2.2 == a0_2)))) = true then (some 2) else (some 0)))))) else (some 2))
def ranges_Check.T1 : Bool × List (List Nat × List Nat) := (true, [([], []), ([0], [0]), ([1], [1]), ([2], [2]), ([3, 2], [3]), ([4], [4]), ([5, 4], [4, 5]), ([6, 4], [4, 6]), ([4, 7], [4, 7]), ([8, 4], [8]), ([9], [9]), ([10, 9], [9, 10]), ([9], [9]), ([12, 9], [9, 12]), ([13, 9, 9], [9, 13]), ([11, 14, 9], [9, 11, 14]), ([9, 15], [9, 15]), ([16, 14], [16]), ([17], [17]), ([18, 17], [17, 18]), ([17], [17]), ([20, 17], [17, 20]), ([19, 21, 17, 17], [17, 19, 21]), ([17], [17]), ([23, 17], [17, 23]), ([22, 24, 17], [17, 22, 24]), ([17, 25], [17, 25])])
def ranges_Check.B1 : List Nat := [0, 1, 3, 7, 15, 31, 63, 127, 255, 511, 1023, 2047, 1023, 5119, 13311, 32767, 65535, 131071, 262143, 524287, 262143, 1310719, 4194303, 262143, 8650751, 33554431, 67108863]
theorem ranges_Check.tab1 : rtab .any (opsOf Tryz.f15 1) = ranges_Check.T1 := by kernel_rfl
theorem ranges_Check.bits1 : waitsOk ranges_Check.T1.2 ranges_Check.B1 = true := by kernel_rfl
set_option maxHeartbeats 8000000 in
set_option maxRecDepth 100000 in
theorem ranges_Check.calls (a0_0 : Bool) (a0_1 : Int) (a0_2 : Int) (a0_3 : Int) (r : Int) (w : World) (h : ranges_Check.f a0_0 a0_1 a0_2 a0_3 = some r) :
  Calls Tryz.prog 15 #[.agg #[.bool a0_0, .int .u64 a0_1, .int .u64 a0_2, .int .i64 a0_3]] w fun e w' => e = .returned (.int .i64 r) ∧ Below w.heap.size w w' := by
 have hu26 := Tryz.underlying26
 have hu24 := Tryz.underlying24
 have HB := aM (Below.refl w.heap.size w)
 have H : ((addr_Check.f a0_0 a0_1 a0_2).bind fun t109 => (if t109 = 0 then (if a0_3 < 0 then (some 2) else ((ranges_wide.f a0_0 a0_1 a0_2).bind fun t110 => (if a0_3 > t110 then (some 2) else ((ranges_head.f a0_0 a0_1 a0_2 a0_3).bind fun bt111 => (if (!(bt111.1 == a0_0) || (!(bt111.2.1 == a0_1) || (!(bt111.2.2 == a0_2)))) = true then (some 2) else (some 0)))))) else (some 2))) = some r := h
 clear h
 obtain ⟨t109, A2, H⟩ := oB H
 try dsimp only at H
 by_cases c3 : t109 = 0
 ·rw [if_pos c3] at H
  have c3b0 : (t109 == 0) = true := beq_iff_eq.mpr c3
  have c3b1 : (t109 != 0) = false := bne_eq_false_iff_eq.mpr c3
  clear c3
  by_cases c4 : a0_3 < 0
  ·rw [if_pos c4] at H
   have c4b0 : decide (a0_3 < 0) = true := decide_eq_true c4
   clear c4
   obtain rfl := Option.some.inj H
   go_enter Tryz.func15, Tryz.ntmps15
   try go_wp2_with (first | ((with_reducible refine gD 1 rfl ?_); refine bX 1 #[.bool a0_0, .int .u64 a0_1, .int .u64 a0_2, .int .i64 a0_3] 26 ?_; intro gb108 hg w5 hbox hb; have BK108 := aM hbox; have GW108 := gS hg HB.out; have GE108 := GW108; replace HB := bS HB.out hb; clear hb hbox hg))
   replace BK108 := aM (kD BK108.out)
   replace HB := aM (bD HB.out)
   refine pS 27 (S := fun w' => cZ4 w' gb108 (.bool a0_0) (.int .u64 a0_1) (.int .u64 a0_2) (.int .i64 a0_3)) (ds := []) (kZ4 BK108.out) (fun hHeld => ?_); refine with_tabW ranges_Check.tab1 ranges_Check.bits1 (fun HT_ HW_ => ?_)
   generalize w5.drew = w6 at BK108 HB hHeld ⊢
   refine pP 0 3 ?_
   refine pT 1 4 ?_
   refine pO 2 5 (fun K hK => ?_)
   refine gO Tryz.func36 #[.agg #[.bool a0_0, .int .u64 a0_1, .int .u64 a0_2]] ?_
   with_reducible refine (addr_Check.calls a0_0 a0_1 a0_2 t109 _ A2.out).mono ?_
   rintro e w7 ⟨rfl, hb⟩
   refine ⟨_, rfl, ?_⟩
   replace BK108 := kB BK108.out hb
   replace HB := bS HB.out hb
   (try clear hb)
   refine hK.out _ _ (kZ4 BK108.out) (fun hHeld => ?_)
   clear hK K
   refine pN ?_
   refine pP 3 6 ?_
   refine pP 4 7 ?_
   refine pP 5 8 ?_
   refine pT 6 9 ?_
   refine pP 7 10 ?_
   refine pP 8 11 ?_
   refine pP 9 12 ?_
   refine pU 10 13 ?_
   refine pU 11 14 ?_
   refine pU 12 15 ?_
   refine pU 13 16 ?_
   refine pU 14 17 ?_
   refine pU 15 18 ?_
   refine pP 16 19 ?_
   refine pP 17 20 ?_
   refine pU 18 21 ?_
   refine pU 19 22 ?_
   refine pU 20 23 ?_
   refine pU 21 24 ?_
   refine pU 22 25 ?_
   refine pU 23 26 ?_
   refine pU 24 27 ?_
   refine pU 25 28 ?_
   refine pP 26 29 ?_
   refine pD ?_
   try go_wp2
   go_ret
   exact ⟨tE, tB HB.out⟩
  ·rw [if_neg c4] at H
   have c4b0 : decide (a0_3 < 0) = false := decide_eq_false c4
   clear c4
   obtain ⟨t110, A8, H⟩ := oB H
   try dsimp only at H
   by_cases c9 : a0_3 > t110
   ·rw [if_pos c9] at H
    have c9b0 : decide (t110 < a0_3) = true := decide_eq_true c9
    clear c9
    obtain rfl := Option.some.inj H
    go_enter Tryz.func15, Tryz.ntmps15
    try go_wp2_with (first | ((with_reducible refine gD 1 rfl ?_); refine bX 1 #[.bool a0_0, .int .u64 a0_1, .int .u64 a0_2, .int .i64 a0_3] 26 ?_; intro gb108 hg w10 hbox hb; have BK108 := aM hbox; have GW108 := gS hg HB.out; have GE108 := GW108; replace HB := bS HB.out hb; clear hb hbox hg))
    replace BK108 := aM (kD BK108.out)
    replace HB := aM (bD HB.out)
    refine pS 27 (S := fun w' => cZ4 w' gb108 (.bool a0_0) (.int .u64 a0_1) (.int .u64 a0_2) (.int .i64 a0_3)) (ds := []) (kZ4 BK108.out) (fun hHeld => ?_); refine with_tabW ranges_Check.tab1 ranges_Check.bits1 (fun HT_ HW_ => ?_)
    generalize w10.drew = w11 at BK108 HB hHeld ⊢
    refine pP 0 3 ?_
    refine pT 1 4 ?_
    refine pO 2 5 (fun K hK => ?_)
    refine gO Tryz.func36 #[.agg #[.bool a0_0, .int .u64 a0_1, .int .u64 a0_2]] ?_
    with_reducible refine (addr_Check.calls a0_0 a0_1 a0_2 t109 _ A2.out).mono ?_
    rintro e w12 ⟨rfl, hb⟩
    refine ⟨_, rfl, ?_⟩
    replace BK108 := kB BK108.out hb
    replace HB := bS HB.out hb
    (try clear hb)
    refine hK.out _ _ (kZ4 BK108.out) (fun hHeld => ?_)
    clear hK K
    refine pN ?_
    refine pP 3 6 ?_
    refine pP 4 7 ?_
    refine pP 5 8 ?_
    refine pT 6 9 ?_
    refine pP 7 10 ?_
    refine pP 8 11 ?_
    refine pP 9 12 ?_
    refine pP 10 13 ?_
    refine pP 12 15 ?_
    refine pT 11 14 ?_
    refine pT 13 16 ?_
    refine pO 14 17 (fun K hK => ?_)
    refine gO Tryz.func34 #[.agg #[.bool a0_0, .int .u64 a0_1, .int .u64 a0_2]] ?_
    with_reducible refine (ranges_wide.calls a0_0 a0_1 a0_2 t110 _ A8.out).mono ?_
    rintro e w13 ⟨rfl, hb⟩
    refine ⟨_, rfl, ?_⟩
    replace BK108 := kB BK108.out hb
    replace HB := bS HB.out hb
    (try clear hb)
    refine hK.out _ _ (kZ4 BK108.out) (fun hHeld => ?_)
    clear hK K
    refine pN ?_
    refine pP 15 18 ?_
    refine pP 16 19 ?_
    refine pP 17 20 ?_
    refine pU 18 21 ?_
    refine pU 19 22 ?_
    refine pU 20 23 ?_
    refine pU 21 24 ?_
    refine pU 22 25 ?_
    refine pU 23 26 ?_
    refine pU 24 27 ?_
    refine pU 25 28 ?_
    refine pP 26 29 ?_
    refine pD ?_
    try go_wp2
    go_ret
    exact ⟨tE, tB HB.out⟩
   ·rw [if_neg c9] at H
    have c9b0 : decide (t110 < a0_3) = false := decide_eq_false c9
    clear c9
    obtain ⟨⟨t111, t112, t113⟩, A14, H⟩ := oB H
    try dsimp only at H
    by_cases c15 : (!(t111 == a0_0) || (!(t112 == a0_1) || (!(t113 == a0_2)))) = true
    ·rw [if_pos c15] at H
     have c15b0 : (!(t111 == a0_0) || (!(t112 == a0_1) || (!(t113 == a0_2)))) = true := c15
     clear c15
     obtain rfl := Option.some.inj H
     go_enter Tryz.func15, Tryz.ntmps15
     try go_wp2_with (first | ((with_reducible refine gD 1 rfl ?_); refine bX 1 #[.bool a0_0, .int .u64 a0_1, .int .u64 a0_2, .int .i64 a0_3] 26 ?_; intro gb108 hg w16 hbox hb; have BK108 := aM hbox; have GW108 := gS hg HB.out; have GE108 := GW108; replace HB := bS HB.out hb; clear hb hbox hg))
     replace BK108 := aM (kD BK108.out)
     replace HB := aM (bD HB.out)
     refine pS 27 (S := fun w' => cZ4 w' gb108 (.bool a0_0) (.int .u64 a0_1) (.int .u64 a0_2) (.int .i64 a0_3)) (ds := []) (kZ4 BK108.out) (fun hHeld => ?_); refine with_tabW ranges_Check.tab1 ranges_Check.bits1 (fun HT_ HW_ => ?_)
     generalize w16.drew = w17 at BK108 HB hHeld ⊢
     refine pP 0 3 ?_
     refine pT 1 4 ?_
     refine pO 2 5 (fun K hK => ?_)
     refine gO Tryz.func36 #[.agg #[.bool a0_0, .int .u64 a0_1, .int .u64 a0_2]] ?_
     with_reducible refine (addr_Check.calls a0_0 a0_1 a0_2 t109 _ A2.out).mono ?_
     rintro e w18 ⟨rfl, hb⟩
     refine ⟨_, rfl, ?_⟩
     replace BK108 := kB BK108.out hb
     replace HB := bS HB.out hb
     (try clear hb)
     refine hK.out _ _ (kZ4 BK108.out) (fun hHeld => ?_)
     clear hK K
     refine pN ?_
     refine pP 3 6 ?_
     refine pP 4 7 ?_
     refine pP 5 8 ?_
     refine pT 6 9 ?_
     refine pP 7 10 ?_
     refine pP 8 11 ?_
     refine pP 9 12 ?_
     refine pP 10 13 ?_
     refine pP 12 15 ?_
     refine pT 11 14 ?_
     refine pT 13 16 ?_
     refine pO 14 17 (fun K hK => ?_)
     refine gO Tryz.func34 #[.agg #[.bool a0_0, .int .u64 a0_1, .int .u64 a0_2]] ?_
     with_reducible refine (ranges_wide.calls a0_0 a0_1 a0_2 t110 _ A8.out).mono ?_
     rintro e w19 ⟨rfl, hb⟩
     refine ⟨_, rfl, ?_⟩
     replace BK108 := kB BK108.out hb
     replace HB := bS HB.out hb
     (try clear hb)
     refine hK.out _ _ (kZ4 BK108.out) (fun hHeld => ?_)
     clear hK K
     refine pN ?_
     refine pP 15 18 ?_
     refine pP 16 19 ?_
     refine pP 17 20 ?_
     refine pP 18 21 ?_
     refine pP 20 23 ?_
     refine pP 23 26 ?_
     refine pT 19 22 ?_
     refine pT 21 24 ?_
     refine pT 24 27 ?_
     refine pO 22 25 (fun K hK => ?_)
     refine gO Tryz.func37 #[.agg #[.bool a0_0, .int .u64 a0_1, .int .u64 a0_2], .int .i64 a0_3] ?_
     with_reducible refine (ranges_head.calls a0_0 a0_1 a0_2 a0_3 t111 t112 t113 _ A14.out).mono ?_
     rintro e w20 ⟨rfl, hb⟩
     refine ⟨_, rfl, ?_⟩
     replace BK108 := kB BK108.out hb
     replace HB := bS HB.out hb
     (try clear hb)
     refine hK.out _ _ (kZ4 BK108.out) (fun hHeld => ?_)
     clear hK K
     refine pN ?_
     refine pP 25 28 ?_
     refine pP 26 29 ?_
     refine pD ?_
     try go_wp2
     go_ret
     exact ⟨tE, tB HB.out⟩
    ·rw [if_neg c15] at H
     have c15b0 : (!(t111 == a0_0) || (!(t112 == a0_1) || (!(t113 == a0_2)))) = false := by simpa using c15
     clear c15
     obtain rfl := Option.some.inj H
     go_enter Tryz.func15, Tryz.ntmps15
     try go_wp2_with (first | ((with_reducible refine gD 1 rfl ?_); refine bX 1 #[.bool a0_0, .int .u64 a0_1, .int .u64 a0_2, .int .i64 a0_3] 26 ?_; intro gb108 hg w21 hbox hb; have BK108 := aM hbox; have GW108 := gS hg HB.out; have GE108 := GW108; replace HB := bS HB.out hb; clear hb hbox hg))
     replace BK108 := aM (kD BK108.out)
     replace HB := aM (bD HB.out)
     refine pS 27 (S := fun w' => cZ4 w' gb108 (.bool a0_0) (.int .u64 a0_1) (.int .u64 a0_2) (.int .i64 a0_3)) (ds := []) (kZ4 BK108.out) (fun hHeld => ?_); refine with_tabW ranges_Check.tab1 ranges_Check.bits1 (fun HT_ HW_ => ?_)
     generalize w21.drew = w22 at BK108 HB hHeld ⊢
     refine pP 0 3 ?_
     refine pT 1 4 ?_
     refine pO 2 5 (fun K hK => ?_)
     refine gO Tryz.func36 #[.agg #[.bool a0_0, .int .u64 a0_1, .int .u64 a0_2]] ?_
     with_reducible refine (addr_Check.calls a0_0 a0_1 a0_2 t109 _ A2.out).mono ?_
     rintro e w23 ⟨rfl, hb⟩
     refine ⟨_, rfl, ?_⟩
     replace BK108 := kB BK108.out hb
     replace HB := bS HB.out hb
     (try clear hb)
     refine hK.out _ _ (kZ4 BK108.out) (fun hHeld => ?_)
     clear hK K
     refine pN ?_
     refine pP 3 6 ?_
     refine pP 4 7 ?_
     refine pP 5 8 ?_
     refine pT 6 9 ?_
     refine pP 7 10 ?_
     refine pP 8 11 ?_
     refine pP 9 12 ?_
     refine pP 10 13 ?_
     refine pP 12 15 ?_
     refine pT 11 14 ?_
     refine pT 13 16 ?_
     refine pO 14 17 (fun K hK => ?_)
     refine gO Tryz.func34 #[.agg #[.bool a0_0, .int .u64 a0_1, .int .u64 a0_2]] ?_
     with_reducible refine (ranges_wide.calls a0_0 a0_1 a0_2 t110 _ A8.out).mono ?_
     rintro e w24 ⟨rfl, hb⟩
     refine ⟨_, rfl, ?_⟩
     replace BK108 := kB BK108.out hb
     replace HB := bS HB.out hb
     (try clear hb)
     refine hK.out _ _ (kZ4 BK108.out) (fun hHeld => ?_)
     clear hK K
     refine pN ?_
     refine pP 15 18 ?_
     refine pP 16 19 ?_
     refine pP 17 20 ?_
     refine pP 18 21 ?_
     refine pP 20 23 ?_
     refine pP 23 26 ?_
     refine pT 19 22 ?_
     refine pT 21 24 ?_
     refine pT 24 27 ?_
     refine pO 22 25 (fun K hK => ?_)
     refine gO Tryz.func37 #[.agg #[.bool a0_0, .int .u64 a0_1, .int .u64 a0_2], .int .i64 a0_3] ?_
     with_reducible refine (ranges_head.calls a0_0 a0_1 a0_2 a0_3 t111 t112 t113 _ A14.out).mono ?_
     rintro e w25 ⟨rfl, hb⟩
     refine ⟨_, rfl, ?_⟩
     replace BK108 := kB BK108.out hb
     replace HB := bS HB.out hb
     (try clear hb)
     refine hK.out _ _ (kZ4 BK108.out) (fun hHeld => ?_)
     clear hK K
     refine pN ?_
     refine pP 25 28 ?_
     refine pP 26 29 ?_
     refine pD ?_
     try go_wp2
     go_ret
     exact ⟨tE, tB HB.out⟩
 ·rw [if_neg c3] at H
  have c3b0 : (t109 == 0) = false := beq_eq_false_iff_ne.mpr c3
  have c3b1 : (t109 != 0) = true := bne_iff_ne.mpr c3
  obtain rfl := Option.some.inj H
  go_enter Tryz.func15, Tryz.ntmps15
  try go_wp2_with (first | ((with_reducible refine gD 1 rfl ?_); refine bX 1 #[.bool a0_0, .int .u64 a0_1, .int .u64 a0_2, .int .i64 a0_3] 26 ?_; intro gb108 hg w26 hbox hb; have BK108 := aM hbox; have GW108 := gS hg HB.out; have GE108 := GW108; replace HB := bS HB.out hb; clear hb hbox hg))
  replace BK108 := aM (kD BK108.out)
  replace HB := aM (bD HB.out)
  refine pS 27 (S := fun w' => cZ4 w' gb108 (.bool a0_0) (.int .u64 a0_1) (.int .u64 a0_2) (.int .i64 a0_3)) (ds := []) (kZ4 BK108.out) (fun hHeld => ?_); refine with_tabW ranges_Check.tab1 ranges_Check.bits1 (fun HT_ HW_ => ?_)
  generalize w26.drew = w27 at BK108 HB hHeld ⊢
  refine pP 0 3 ?_
  refine pT 1 4 ?_
  refine pO 2 5 (fun K hK => ?_)
  refine gO Tryz.func36 #[.agg #[.bool a0_0, .int .u64 a0_1, .int .u64 a0_2]] ?_
  with_reducible refine (addr_Check.calls a0_0 a0_1 a0_2 t109 _ A2.out).mono ?_
  rintro e w28 ⟨rfl, hb⟩
  refine ⟨_, rfl, ?_⟩
  replace BK108 := kB BK108.out hb
  replace HB := bS HB.out hb
  (try clear hb)
  refine hK.out _ _ (kZ4 BK108.out) (fun hHeld => ?_)
  clear hK K
  refine pN ?_
  refine pP 3 6 ?_
  refine pP 4 7 ?_
  refine pU 5 8 ?_
  refine pU 6 9 ?_
  refine pU 7 10 ?_
  refine pP 8 11 ?_
  refine pP 9 12 ?_
  refine pU 10 13 ?_
  refine pU 11 14 ?_
  refine pU 12 15 ?_
  refine pU 13 16 ?_
  refine pU 14 17 ?_
  refine pU 15 18 ?_
  refine pP 16 19 ?_
  refine pP 17 20 ?_
  refine pU 18 21 ?_
  refine pU 19 22 ?_
  refine pU 20 23 ?_
  refine pU 21 24 ?_
  refine pU 22 25 ?_
  refine pU 23 26 ?_
  refine pU 24 27 ?_
  refine pU 25 28 ?_
  refine pP 26 29 ?_
  refine pD ?_
  try go_wp2
  go_ret
  exact ⟨tE, tB HB.out⟩

end Go.Proofs.YtbalmnkbodcigaaGreatDoor.ORc
namespace Go.Proofs.YtbalmnkbodcigaaGreatDoor.ORc
open Go.RowKit Go.Proofs.YtbalmnkbodcigaaGreatDoorW.PrintWords Go.Proofs.YtbalmnkbodcigaaGreatDoorW.PrintLast Go.Proofs.YtbalmnkbodcigaaGreatDoorW.PrintMore
attribute [local go_sem] max2_int min2_int max_two min_two max_three min_three max_four min_four   -- for this text's walks alone
set_option linter.unusedVariables false
set_option linter.unusedSimpArgs false









def strings_Cut.f (a0 a1 : ByteArray) : Option (ByteArray × ByteArray × Bool) := if a0.size ≤ 100000 then some (⟨(Lib.cut a0.data.toList a1.data.toList).1.toArray⟩, ⟨(Lib.cut a0.data.toList a1.data.toList).2.1.toArray⟩, (Lib.cut a0.data.toList a1.data.toList).2.2) else none
theorem strings_Cut.calls (a0 a1 : ByteArray) (r1 r2 : ByteArray) (r3 : Bool) (w : World) (hG_ : Aside0 (AddrLib.G w)) (h : strings_Cut.f a0 a1 = some (r1, r2, r3)) :
  Calls Tryz.prog 26 #[.string a0, .string a1] w fun e w' => e = .returned (.tuple #[.string r1, .string r2, .bool r3]) ∧ Drawn0 w w' := by
 unfold strings_Cut.f at h
 by_cases c : a0.size ≤ 100000
 ·rw [if_pos c] at h
  have h := Option.some.inj h
  simp only [Prod.mk.injEq] at h
  obtain ⟨rfl, rfl, rfl⟩ := h
  exact AddrLib.cut_any a0 a1 w hG_.out (by omega)
 ·rw [if_neg c] at h; cases h

/-! ### addr_whole: function 43 -/
def addr_whole.l0 : Nat → Int → List Int → Int → Int → Option (Int)
 | 0, _, _, _, _ => none
 | k + 1, x3, x6, x7, x8 => if x8 < x7 then (if 0 ≤ x8 then (if x8 < (x6.length : Int) then (addr_whole.l0 k (Go.bits .or .u64 (IntKind.u64.wrap (x3 * 256)) (IntKind.u64.wrap (rd x6 x8))) x6 x7 (wrap64 (x8 + 1))) else (none)) else (none)) else (some x3)
def addr_whole.f (k : Nat) (l0 : List Int) : Option (Int) := addr_whole.l0 k 0 l0 (l0.length : Int) 0
theorem addr_whole.mono_l : ∀ k, (∀ y0 y1 y2 y3, LeO (addr_whole.l0 k y0 y1 y2 y3) (addr_whole.l0 (k + 1) y0 y1 y2 y3))
 | 0 => fun _ _ _ _ r h => by simp [addr_whole.l0] at h
 | k + 1 => by
  have ih0 := addr_whole.mono_l k
  ·intro y0 y1 y2 y3
   unfold addr_whole.l0
   repeat' first | (with_reducible first | apply ih0 | exact LeO.refl _ | exact LeO.none _ | refine LeO.ite ?_ ?_ | refine LeO.bind ?_ (fun _ => ?_)) | apply ih0 | exact LeO.none _ | refine LeO.ite ?_ ?_ | refine LeO.bind ?_ (fun _ => ?_)
theorem addr_whole.mono : ∀ a0 k, LeO (addr_whole.f k a0) (addr_whole.f (k + 1) a0) := by
 intro a0 k
 have ih0 := addr_whole.mono_l k
 unfold addr_whole.f
 repeat' first | (with_reducible first | apply ih0 | exact LeO.refl _ | exact LeO.none _ | refine LeO.ite ?_ ?_ | refine LeO.bind ?_ (fun _ => ?_)) | apply ih0 | exact LeO.none _ | refine LeO.ite ?_ ?_ | refine LeO.bind ?_ (fun _ => ?_)
set_option maxHeartbeats 8000000 in
set_option maxRecDepth 100000 in
theorem addr_whole.calls (k : Nat) (A0 : Option Addr) (c0 : Nat) (l0 : List Int) (r : Int) (w : World) (hr0 : Kd.C (Kd.int .u8) w A0 l0.length l0) (hc0 : l0.length ≤ c0) (h : addr_whole.f k l0 = some r) :
  Calls Tryz.prog 43 #[.slice A0 l0.length c0] w fun e w' => e = .returned (.int .u64 r) ∧ Drawn0 w w' := by
 have HR0 := aM hr0
 have HC0 := aM hc0
 clear hr0 hc0
 have H : (addr_whole.l0 k 0 l0 (l0.length : Int) 0) = some r := h
 clear h
 have H' := aM H
 clear H
 go_enter Tryz.func43, Tryz.ntmps43
 go_wp2
 go_loopg [3, 8] k (fun kq v3 v8 w' => ∃ (x3_1 : Int) (x8_1 : Int), v3 = .int .u64 x3_1 ∧ v8 = .int .i64 x8_1 ∧ Aside0 (addr_whole.l0 kq x3_1 l0 (l0.length : Int) x8_1 = some r) ∧ Aside0 (kq ≤ k) ∧ Drawn0 w w')
 case atStart => exact ⟨(0), (0), tF, tF, H', ⟨Nat.le_refl _⟩, by repeat (first | exact Drawn0.refl _ | apply Drawn0.step)⟩
 case round =>
  clear H'
  obtain ⟨x3_1, x8_1, rfl, rfl, HA, HK1, ⟨m1, rfl⟩⟩ := hrel
  cases gk with
  | zero => exact absurd HA.out (by simp [addr_whole.l0])
  | succ k1 =>
   have H := HA.out
   clear HA
   simp only [addr_whole.l0] at H
   by_cases c2 : x8_1 < (l0.length : Int)
   ·rw [if_pos c2] at H
    have c2b0 : decide (x8_1 < (l0.length : Int)) = true := decide_eq_true c2
    clear c2
    by_cases c3 : 0 ≤ x8_1
    ·rw [if_pos c3] at H
     have c3b0 : decide (0 ≤ x8_1) = true := decide_eq_true c3
     clear c3
     by_cases c4 : x8_1 < (l0.length : Int)
     ·rw [if_pos c4] at H
      have c4b0 : decide (x8_1 < (l0.length : Int)) = true := decide_eq_true c4
      clear c4
      have H' := aM H
      clear H
      have p114 : 0 ≤ (x8_1 : Int) := of_decide_eq_true (by first | (with_reducible assumption) | assumption)
      have q114 : x8_1 < (l0.length : Int) := of_decide_eq_true (by first | (with_reducible assumption) | assumption)
      obtain ⟨ad114, e114, hx114_0⟩ := Kd.at_int HR0.out x8_1 p114 q114
      cases e114
      replace p114 := eq_true p114
      replace q114 := eq_true q114
      go_wp2
      go_roundg k1
      case measure => have := HK1.out; omega
      case rel => exact ⟨(Go.bits .or .u64 (IntKind.u64.wrap (x3_1 * 256)) (IntKind.u64.wrap (rd l0 x8_1))), (wrap64 (x8_1 + 1)), tF, tF, H', ⟨by have := HK1.out; omega⟩, by repeat (first | exact Drawn0.refl _ | apply Drawn0.step)⟩
     ·rw [if_neg c4] at H
      exact absurd H (by simp)
    ·rw [if_neg c3] at H
     exact absurd H (by simp)
   ·rw [if_neg c2] at H
    have c2b0 : decide (x8_1 < (l0.length : Int)) = false := decide_eq_false c2
    clear c2
    obtain rfl := Option.some.inj H
    go_wp2
    go_ret
    exact ⟨by first | rfl | (simp; done) | (simp [*]; done), by repeat (first | exact Drawn0.refl _ | apply Drawn0.step)⟩

/-! ### addr_Four: function 25 -/
def addr_Four.f (k : Nat) (a0 : Int) (a1 : Int) (a2 : Int) (a3 : Int) : Option (Bool × Int × Int) := (addr_whole.f k (([a0, a1, a2, a3] : List Int))).bind fun t119 => (some (false, 0, t119))
theorem addr_Four.mono : ∀ a0 a1 a2 a3 k, LeO (addr_Four.f k a0 a1 a2 a3) (addr_Four.f (k + 1) a0 a1 a2 a3) := by
 intro a0 a1 a2 a3 k
 unfold addr_Four.f
 repeat' first | (with_reducible first | apply addr_whole.mono | exact LeO.refl _ | exact LeO.none _ | refine LeO.ite ?_ ?_ | refine LeO.bind ?_ (fun _ => ?_)) | apply addr_whole.mono | exact LeO.none _ | refine LeO.ite ?_ ?_ | refine LeO.bind ?_ (fun _ => ?_)
set_option maxHeartbeats 8000000 in
set_option maxRecDepth 100000 in
theorem addr_Four.calls (k : Nat) (a0 : Int) (a1 : Int) (a2 : Int) (a3 : Int) (r1 : Bool) (r2 : Int) (r3 : Int) (w : World) (h : addr_Four.f k a0 a1 a2 a3 = some (r1, r2, r3)) :
  Calls Tryz.prog 25 #[.int .u8 a0, .int .u8 a1, .int .u8 a2, .int .u8 a3] w fun e w' => e = .returned (.agg #[.bool r1, .int .u64 r2, .int .u64 r3]) ∧ Below w.heap.size w w' := by
 have hu24 := Tryz.underlying24
 have HB := aM (Below.refl w.heap.size w)
 have H : ((addr_whole.f k (([a0, a1, a2, a3] : List Int))).bind fun t119 => (some (false, 0, t119))) = some (r1, r2, r3) := h
 clear h
 obtain ⟨y116, hy116⟩ : ∃ y_ : List Int, y_ = (([a0, a1, a2, a3] : List Int)) := ⟨_, rfl⟩
 replace H : ((addr_whole.f k y116).bind fun t119 => (some (false, 0, t119))) = some (r1, r2, r3) := by first | (rw [hy116]; with_reducible exact H) | (have H2_ := (Option.bind_some _ _).symm.trans H; rw [hy116]; with_reducible exact H2_) | (have H2_ := (Option.bind_some _ _).symm.trans H; with_reducible exact H2_) | with_reducible exact H | (rw [hy116]; exact H) | exact H
 have Ny116 := aM hy116
 clear hy116
 obtain ⟨t119, A5, H⟩ := oB H
 try dsimp only at H
 simp only [Option.some.injEq, Prod.mk.injEq] at H
 obtain ⟨rfl, rfl, rfl⟩ := H
 go_enter Tryz.func25, Tryz.ntmps25
 go_wp2_with (first | ((with_reducible refine gD 8 rfl ?_); refine bX 8 #[.bool false, .int .u64 0, .int .u64 0] 24 ?_; intro gb115 hg w6 hbox hb; have BK115 := aM hbox; have GW115 := gS hg HB.out; have GE115 := GW115; replace HB := bS HB.out hb; clear hb hbox hg) | ((with_reducible refine gD 13 rfl ?_); refine Kd.R_lit (Kd.int .u8) _ 5 ?hg (N := 13) ?hd (xs := ([a0, a1, a2, a3] : List Int)) (inner := [.int .u8 a0, .int .u8 a1, .int .u8 a2, .int .u8 a3]) (ok := fun _ => True) (okp := fun _ => True) ?hr ?hp (fun _ hk => hk) trivial (Below.refl _ _) (Nat.le_refl _) (by simp) ?_; (case hd => rfl); (case hg => rfl); (case hr => first | (go_simp; done) | (go_simp; rfl)); (case hp => exact (Reps.one (show Kd.M (Kd.int .u8) _ _ _ a0 [.int .u8 a0] from rfl) (Reps.one (show Kd.M (Kd.int .u8) _ _ _ a1 [.int .u8 a1] from rfl) (Reps.one (show Kd.M (Kd.int .u8) _ _ _ a2 [.int .u8 a2] from rfl) (Reps.one (show Kd.M (Kd.int .u8) _ _ _ a3 [.int .u8 a3] from rfl) (Reps.none _ _)))))); intro v117 w7 ho8 hb hg_ hnew_; clear hg_ hnew_; (first | rw [← Ny116.out] at ho8 | (simp only [Int.reduceToNat] at ho8; rw [← Ny116.out] at ho8)); have HO118 := aM (Kd.R_lower ho8 (below_size (tB HB.out))); replace BK115 := kB BK115.out hb; replace HB := bS HB.out hb; clear hb ho8; obtain ⟨Ao9, co9, eo9⟩ := Kd.R_slice HO118.out; subst eo9) | ((with_reducible refine gC 43 rfl ?_); refine gL (some 14) Tryz.func43 #[.slice Ao9 y116.length co9] ?_; (with_reducible refine (addr_whole.calls k _ _ y116 t119 _ ?side1 ?side2 A5.out).mono ?_); (case side1 => exact tC (Kd.R_reads' HO118.out).2.2); (case side2 => exact (Kd.R_reads' HO118.out).2.1); rintro e w' ⟨rfl, ⟨nd, rfl⟩⟩; refine ⟨_, rfl, ?_⟩; (try (rw [drewN_self w7]; generalize hq_ : World.drewN w7 _ = w7; have n0_ : Aside0 (Kd.R (Kd.int .u8) 5 w7 w.heap.size (fun _ => True) (.slice Ao9 y116.length co9) y116) := ⟨by rw [← hq_]; exact (tR HO118.out)⟩; have n1_ : Aside0 (w7.heap[gb115]? = some (.cells #[.bool false, .int .u64 0, .int .u64 0] 24 (0, 0))) := ⟨by rw [← hq_]; exact (tK BK115.out)⟩; have n2_ : Aside0 (Below w.heap.size w w7) := ⟨by rw [← hq_]; exact (tB HB.out)⟩; clear HO118 BK115 HB hq_; have HO118 := n0_; have BK115 := n1_; have HB := n2_; clear n0_ n1_ n2_)); obtain ⟨hcz10_0, hcz10_1, hcz10_2, hfz10_0, hfz10_1, hfz10_2⟩ := kY3 BK115.out))
 refine bodyPost_ret (results_cell_row rfl _ _ gb115 24 #[.bool false, .int .u64 0, .int .u64 t119] (0, 0) _ rfl (tP BK115.out) Tryz.underlying24 rfl (by kernel_rfl)) rfl ?_
 exact ⟨tE, tB HB.out⟩









def strings_Split.f (a0 a1 : ByteArray) : Option (List ByteArray) := if a0.size ≤ 100000 ∧ a1.size = 1 then some (Lib.splitB a1 0 (Lib.countB a0 a1) a0) else none
theorem strings_Split.calls (a0 a1 : ByteArray) (r : List ByteArray) (w : World) (h : strings_Split.f a0 a1 = some r) :
  Calls Tryz.prog 66 #[.string a0, .string a1] w fun e w' => ∃ v0_ : Value, e = .returned (v0_) ∧ Kd.R Kd.string 9 w' w.heap.size (fun _ => True) v0_ r ∧ Below w.heap.size w w' := by
 unfold strings_Split.f at h
 by_cases c : a0.size ≤ 100000 ∧ a1.size = 1
 ·rw [if_pos c] at h
  obtain rfl := Option.some.inj h
  obtain ⟨x, rfl⟩ := AddrLib.one_of_size c.2
  exact AddrLib.split_row a0 x w (by omega)
 ·rw [if_neg c] at h; cases h




















def strings_ToLower.f (a0 : ByteArray) : Option (ByteArray) := if a0.size ≤ 1000 ∧ (a0.data.toList.all fun b => decide (b.toNat < 128)) = true then some ⟨(Lib.toLowerA a0.data.toList).toArray⟩ else none
theorem strings_ToLower.calls (a0 : ByteArray) (r : ByteArray) (w : World) (h : strings_ToLower.f a0 = some r) :
  Calls Tryz.prog 85 #[.string a0] w fun e w' => e = .returned (.string r) ∧ Below w.heap.size w w' := by
 unfold strings_ToLower.f at h
 by_cases c : a0.size ≤ 1000 ∧ (a0.data.toList.all fun b => decide (b.toNat < 128)) = true
 ·rw [if_pos c] at h
  obtain rfl := Option.some.inj h
  exact Tryz.strings_ToLower_ascii a0 w (by omega) (fun j b hb => of_decide_eq_true (List.all_eq_true.1 c.2 b (List.mem_of_getElem? hb)))
 ·rw [if_neg c] at h; cases h

def strings_IndexByte.f (a0 : ByteArray) (a1 : Int) : Option (Int) := some (Lib.indexByte a0.data.toList a1.toNat.toUInt8)
theorem strings_IndexByte.calls (a0 : ByteArray) (a1 : Int) (r : Int) (w : World) (h : strings_IndexByte.f a0 a1 = some r) :
  Calls Tryz.prog 86 #[.string a0, .int .u8 a1] w fun e w' => e = .returned (.int .i64 r) ∧ Drawn0 w w' := by
 obtain rfl := Option.some.inj h
 refine (Tryz.strings_IndexByte a0 a1 w).mono ?_
 rintro e w' ⟨rfl, rfl⟩
 exact ⟨rfl, Drawn0.refl _⟩




















def strconv_Itoa_30.f (a0 : Int) : Option ByteArray := if -9223372036854775808 ≤ a0 ∧ a0 ≤ 9223372036854775807 then some (AddrLib.mkB (Lib.itoa a0)) else none
theorem strconv_Itoa_30.calls (a0 : Int) (r : ByteArray) (w : World) (hG_ : Aside0 (AddrLib.G w)) (h : strconv_Itoa_30.f a0 = some r) :
  Calls Tryz.prog 30 #[.int .i64 a0] w fun e w' => e = .returned (.string r) ∧ Below w.heap.size w w' := by
 unfold strconv_Itoa_30.f at h
 by_cases c : -9223372036854775808 ≤ a0 ∧ a0 ≤ 9223372036854775807
 ·rw [if_pos c] at h
  obtain rfl := Option.some.inj h
  exact AddrLib.itoa_any a0 c.1 c.2 w hG_.out
 ·rw [if_neg c] at h; cases h






def addr_number.f (a0 : ByteArray) (a1 a2 : Int) : Option (Int × Bool) := if (a2 = 10 ∨ a2 = 16) ∧ a1 ≤ 4 then AddrLib.numP a1 a2 a0 else none
theorem addr_number.calls (a0 : ByteArray) (a1 a2 : Int) (r1 : Int) (r2 : Bool) (w : World) (hG_ : Aside0 (AddrLib.G w)) (h : addr_number.f a0 a1 a2 = some (r1, r2)) :
  Calls Tryz.prog 67 #[.string a0, .int .i64 a1, .int .i64 a2] w fun e w' => e = .returned (.tuple #[.int .i64 r1, .bool r2]) ∧ Below w.heap.size w w' := by
 unfold addr_number.f at h
 by_cases c : (a2 = 10 ∨ a2 = 16) ∧ a1 ≤ 4
 ·rw [if_pos c] at h
  exact AddrLib.numP_calls a2 a1 c.1 c.2 a0 (r1, r2) h w hG_.out
 ·rw [if_neg c] at h; cases h

def addr_elder.f (k : Nat) (a0 : ByteArray) : Option (Bool × Int × Int × Bool) := AddrLib.elderF (addr_Four.f k) a0
theorem addr_elder.calls (k : Nat) (a0 : ByteArray) (r1 : Bool) (r2 r3 : Int) (r4 : Bool) (w : World) (hG_ : Aside0 (AddrLib.G w)) (h : addr_elder.f k a0 = some (r1, r2, r3, r4)) :
  Calls Tryz.prog 45 #[.string a0] w fun e w' => e = .returned (.tuple #[.agg #[.bool r1, .int .u64 r2, .int .u64 r3], .bool r4]) ∧ Below w.heap.size w w' :=
 AddrLib.elder_calls (addr_Four.f k) (fun a b c d t w h => addr_Four.calls k a b c d t.1 t.2.1 t.2.2 w h) a0 (r1, r2, r3, r4) h w hG_.out
theorem addr_elder.mono : ∀ a0 k, LeO (addr_elder.f k a0) (addr_elder.f (k + 1) a0) := fun a0 k => AddrLib.elderF_mono (fun a b c d => addr_Four.mono a b c d k) a0

def strings_Contains.f (a0 a1 : ByteArray) : Option Bool := if a0.size ≤ 100000 then some (Lib.contains a0.data.toList a1.data.toList) else none
theorem strings_Contains.calls (a0 a1 : ByteArray) (r : Bool) (w : World) (hG_ : Aside0 (AddrLib.G w)) (h : strings_Contains.f a0 a1 = some r) :
  Calls Tryz.prog 46 #[.string a0, .string a1] w fun e w' => e = .returned (.bool r) ∧ Drawn0 w w' := by
 unfold strings_Contains.f at h
 by_cases c : a0.size ≤ 100000
 ·rw [if_pos c] at h
  obtain rfl := Option.some.inj h
  exact AddrLib.contains_any a0 a1 w hG_.out (by omega)
 ·rw [if_neg c] at h; cases h

/-! ### addr_part: function 69 -/
mutual
def addr_part.l0 : Nat → Bool → List Int → List ByteArray → List ByteArray → Int → Int → Option (List Int × Bool)
 | 0, _, _, _, _, _, _ => none
 | k + 1, x1, x6, x7, x18, x19, x20 => if x20 < x19 then (if 0 ≤ x20 then (if x20 < (x18.length : Int) then ((addr_elder.f k (rdOf ByteArray.empty x18 x20)).bind fun bt144 => (if bt144.2.2.2 = true then (if x1 = true then (addr_part.j1 k x1 x6 x7 (rdOf ByteArray.empty x18 x20) x18 x19 x20 (x20 == (wrap64 ((x7.length : Int) - 1))) bt144.1 bt144.2.1 bt144.2.2.1) else (addr_part.j1 k x1 x6 x7 (rdOf ByteArray.empty x18 x20) x18 x19 x20 false bt144.1 bt144.2.1 bt144.2.2.1)) else (addr_part.j1 k x1 x6 x7 (rdOf ByteArray.empty x18 x20) x18 x19 x20 false bt144.1 bt144.2.1 bt144.2.2.1))) else (none)) else (none)) else (some (x6, true))
def addr_part.j1 : Nat → Bool → List Int → List ByteArray → ByteArray → List ByteArray → Int → Int → Bool → Bool → Int → Int → Option (List Int × Bool)
 | 0, _, _, _, _, _, _, _, _, _, _, _ => none
 | k + 1, x1, x6, x7, x9, x18, x19, x20, x40, x149000, x149001, x149002 => if x40 = true then ((some (([IntKind.u16.wrap (x149002 / 65536), IntKind.u16.wrap (x149002)] : List Int) : List Int)).bind fun y149 => (if x6.length + y149.length < 70368744177664 then (some ((x6 ++ y149), true)) else (none))) else ((addr_number.f x9 4 16).bind fun bt155 => (if bt155.2 = true then (if x6.length < 70368744177664 then (addr_part.l0 k x1 (x6 ++ [IntKind.u16.wrap (bt155.1)]) x7 x18 x19 (wrap64 (x20 + 1))) else (none)) else (some (([] : List Int), false))))
end
def addr_part.f (k : Nat) (a0 : ByteArray) (a1 : Bool) : Option (List Int × Bool) := if a0.toList = ([] : List UInt8) then (some (([] : List Int), true)) else ((strings_Split.f a0 (⟨#[58]⟩ : ByteArray)).bind fun t140 => (addr_part.l0 k a1 ([] : List Int) t140 t140 (t140.length : Int) 0))
theorem addr_part.mono_l : ∀ k, (∀ y0 y1 y2 y3 y4 y5, LeO (addr_part.l0 k y0 y1 y2 y3 y4 y5) (addr_part.l0 (k + 1) y0 y1 y2 y3 y4 y5)) ∧ (∀ y0 y1 y2 y3 y4 y5 y6 y7 y8 y9 y10, LeO (addr_part.j1 k y0 y1 y2 y3 y4 y5 y6 y7 y8 y9 y10) (addr_part.j1 (k + 1) y0 y1 y2 y3 y4 y5 y6 y7 y8 y9 y10))
 | 0 => ⟨fun _ _ _ _ _ _ r h => by simp [addr_part.l0] at h, fun _ _ _ _ _ _ _ _ _ _ _ r h => by simp [addr_part.j1] at h⟩
 | k + 1 => by
  obtain ⟨ih0, ih1⟩ := addr_part.mono_l k
  refine ⟨?_, ?_⟩
  ·intro y0 y1 y2 y3 y4 y5
   unfold addr_part.l0
   repeat' first | (with_reducible first | apply ih0 | apply ih1 | apply addr_elder.mono | exact LeO.refl _ | exact LeO.none _ | refine LeO.ite ?_ ?_ | refine LeO.bind ?_ (fun _ => ?_)) | apply ih0 | apply ih1 | apply addr_elder.mono | exact LeO.none _ | refine LeO.ite ?_ ?_ | refine LeO.bind ?_ (fun _ => ?_)
  ·intro y0 y1 y2 y3 y4 y5 y6 y7 y8 y9 y10
   unfold addr_part.j1
   repeat' first | (with_reducible first | apply ih0 | apply ih1 | apply addr_elder.mono | exact LeO.refl _ | exact LeO.none _ | refine LeO.ite ?_ ?_ | refine LeO.bind ?_ (fun _ => ?_)) | apply ih0 | apply ih1 | apply addr_elder.mono | exact LeO.none _ | refine LeO.ite ?_ ?_ | refine LeO.bind ?_ (fun _ => ?_)
theorem addr_part.mono : ∀ a0 a1 k, LeO (addr_part.f k a0 a1) (addr_part.f (k + 1) a0 a1) := by
 intro a0 a1 k
 obtain ⟨ih0, ih1⟩ := addr_part.mono_l k
 unfold addr_part.f
 repeat' first | (with_reducible first | apply ih0 | apply ih1 | apply addr_elder.mono | exact LeO.refl _ | exact LeO.none _ | refine LeO.ite ?_ ?_ | refine LeO.bind ?_ (fun _ => ?_)) | apply ih0 | apply ih1 | apply addr_elder.mono | exact LeO.none _ | refine LeO.ite ?_ ?_ | refine LeO.bind ?_ (fun _ => ?_)
set_option maxHeartbeats 8000000 in
set_option maxRecDepth 100000 in
theorem addr_part.calls (k : Nat) (a0 : ByteArray) (a1 : Bool) (r1 : List Int) (r2 : Bool) (w : World) (hG_ : Aside0 (AddrLib.G w)) (h : addr_part.f k a0 a1 = some (r1, r2)) :
  Calls Tryz.prog 69 #[.string a0, .bool a1] w fun e w' => ∃ v0_ : Value, e = .returned (.tuple #[v0_, .bool r2]) ∧ Kd.R (Kd.int .u16) 77 w' w.heap.size (fun _ => True) v0_ r1 ∧ Below w.heap.size w w' := by
 have hu24 := Tryz.underlying24
 have HB := aM (Below.refl w.heap.size w)
 have H : (if a0.toList = ([] : List UInt8) then (some (([] : List Int), true)) else ((strings_Split.f a0 (⟨#[58]⟩ : ByteArray)).bind fun t140 => (addr_part.l0 k a1 ([] : List Int) t140 t140 (t140.length : Int) 0))) = some (r1, r2) := h
 clear h
 by_cases c3 : a0.toList = ([] : List UInt8)
 ·rw [if_pos c3] at H
  have c3b0 : (a0.toList == ([] : List UInt8)) = true := beq_iff_eq.mpr c3
  have c3b1 : (a0.toList != ([] : List UInt8)) = false := bne_eq_false_iff_eq.mpr c3
  clear c3
  simp only [Option.some.injEq, Prod.mk.injEq] at H
  obtain ⟨rfl, rfl⟩ := H
  go_enter Tryz.func69, Tryz.ntmps69
  go_wp2
  go_ret2
  exact ⟨_, tE, by first | exact Kd.R_nil _ _ _ _ _ | exact Kd.N_nil _ _ _ _ _ | exact Kd.V_nil _ _ _ _ _ | exact Kd.Q_nil _ _ _ _ _ | exact Kd.S_nil _ _ _ _ _, tB HB.out⟩
 ·rw [if_neg c3] at H
  have c3b0 : (a0.toList == ([] : List UInt8)) = false := beq_eq_false_iff_ne.mpr c3
  have c3b1 : (a0.toList != ([] : List UInt8)) = true := bne_iff_ne.mpr c3
  obtain ⟨t140, A4, H⟩ := oB H
  try dsimp only at H
  have H' := aM H
  clear H
  go_enter Tryz.func69, Tryz.ntmps69
  go_wp2_with (first | ((with_reducible refine gC 66 rfl ?_); refine gL (some 17) Tryz.func66 #[.string a0, .string (⟨#[58]⟩ : ByteArray)] ?_; (with_reducible refine (strings_Split.calls a0 (⟨#[58]⟩ : ByteArray) t140 _ A4.out).mono ?_); rintro e w5 ⟨v141, rfl, ho0, hb⟩; refine ⟨_, rfl, ?_⟩; have HO142 := aM (Kd.R_lower ho0 (below_size (tB HB.out))); replace HB := bS HB.out hb; (try clear hb); (try clear ho0); obtain ⟨Ao6, co6, eo6⟩ := Kd.R_slice HO142.out; subst eo6))
  go_loopg [6, 20] k (fun kq v6 v20 w' => ∃ (x6_1 : List Int) (x20_1 : Int), v20 = .int .i64 x20_1 ∧ Aside0 (addr_part.l0 kq a1 x6_1 t140 t140 (t140.length : Int) x20_1 = some (r1, r2)) ∧ Aside0 (kq ≤ k) ∧ Aside0 (Kd.R (Kd.int .u16) 77 w' w.heap.size (fun _ => True) v6 x6_1) ∧ Aside0 (Kd.R Kd.string 9 w' w.heap.size (fun _ => True) (.slice Ao6 t140.length co6) t140) ∧ Aside0 (Kd.R Kd.string 9 w' w.heap.size (fun _ => True) (.slice Ao6 t140.length co6) t140) ∧ Aside0 (Below w.heap.size w w'))
  case atStart => exact ⟨(([] : List Int)), (0), tF, H', ⟨Nat.le_refl _⟩, ⟨by first | exact Kd.R_nil _ _ _ _ _ | exact Kd.N_nil _ _ _ _ _ | exact Kd.V_nil _ _ _ _ _ | exact Kd.Q_nil _ _ _ _ _ | exact Kd.S_nil _ _ _ _ _⟩, ⟨tR HO142.out⟩, ⟨tR HO142.out⟩, ⟨tB HB.out⟩⟩
  case round =>
   clear H'
   try clear p2
   try clear c3
   try clear c3b0
   try clear c3b1
   try clear c6
   obtain ⟨x6_1, x20_1, rfl, HA, HK1, HO_6, HO_7, HO_18, HB⟩ := hrel
   cases gk with
   | zero => exact absurd HA.out (by simp [addr_part.l0])
   | succ k1 =>
    have H := HA.out
    clear HA
    simp only [addr_part.l0] at H
    by_cases c7 : x20_1 < (t140.length : Int)
    ·rw [if_pos c7] at H
     have c7b0 : decide (x20_1 < (t140.length : Int)) = true := decide_eq_true c7
     clear c7
     by_cases c8 : 0 ≤ x20_1
     ·rw [if_pos c8] at H
      have c8b0 : decide (0 ≤ x20_1) = true := decide_eq_true c8
      clear c8
      by_cases c9 : x20_1 < (t140.length : Int)
      ·rw [if_pos c9] at H
       have c9b0 : decide (x20_1 < (t140.length : Int)) = true := decide_eq_true c9
       clear c9
       obtain ⟨⟨t144, t145, t146, t147⟩, A10, H⟩ := oB H
       try dsimp only at H
       have HC11 := aM H
       clear H
       have p143 : 0 ≤ (x20_1 : Int) := of_decide_eq_true (by first | (with_reducible assumption) | assumption)
       have q143 : x20_1 < (t140.length : Int) := of_decide_eq_true (by first | (with_reducible assumption) | assumption)
       obtain ⟨ad143, e143, hx143_0⟩ := Kd.at_string (Kd.R_reads' HO_18.out).2.2 x20_1 p143 q143
       cases e143
       replace p143 := eq_true p143
       replace q143 := eq_true q143
       go_upto_region 9 with (first | ((with_reducible refine gC 45 rfl ?_); refine gL (some 27) Tryz.func45 #[.string (rdOf ByteArray.empty t140 x20_1)] ?_; (with_reducible refine (addr_elder.calls k1 (rdOf ByteArray.empty t140 x20_1) t144 t145 t146 t147 _ ⟨hG_.out.below (tG HB.out)⟩ A10.out).mono ?_); rintro e w12 ⟨rfl, hb⟩; refine ⟨_, rfl, ?_⟩; replace HO_6 := aM (Kd.R_below (tR HO_6.out) hb); replace HO_7 := aM (Kd.R_below (tR HO_7.out) hb); replace HO_18 := aM (Kd.R_below (tR HO_18.out) hb); replace HB := bS HB.out hb; (try clear hb)) | ((with_reducible refine gD 10 rfl ?_); (try (refine gate_guard (by rfl) ?_; dsimp only)); refine bX 10 #[.bool false, .int .u64 0, .int .u64 0] 24 ?_; intro gb148 hg w13 hbox hb; have BK148 := aM hbox; have GW148 := gS hg HB.out; have GE148 := GW148; replace HO_6 := aM (Kd.R_below (tR HO_6.out) hb); replace HO_7 := aM (Kd.R_below (tR HO_7.out) hb); replace HO_18 := aM (Kd.R_below (tR HO_18.out) hb); replace HB := bS HB.out hb; clear hb hbox hg; obtain ⟨hcz14_0, hcz14_1, hcz14_2, hfz14_0, hfz14_1, hfz14_2⟩ := kY3 BK148.out))
       (try simp only [Act.put, List.setIfInBounds_toArray, List.set_cons_zero, List.set_cons_succ])
       go_cut [40] (fun v40 wc => ∃ (kq : Nat) (x40_10 : Bool), v40 = .bool x40_10 ∧ Aside0 (addr_part.j1 kq a1 x6_1 t140 (rdOf ByteArray.empty t140 x20_1) t140 (t140.length : Int) x20_1 x40_10 t144 t145 t146 = some (r1, r2)) ∧ Aside0 (kq ≤ k1) ∧ Aside0 (Kd.R (Kd.int .u16) 77 wc w.heap.size (fun _ => True) u6 x6_1) ∧ Aside0 (Kd.R Kd.string 9 wc w.heap.size (fun _ => True) (.slice (some ad143) t140.length co6) t140) ∧ Aside0 (Kd.R Kd.string 9 wc w.heap.size (fun _ => True) (.slice (some ad143) t140.length co6) t140) ∧ Aside0 (wc.heap[gb148]? = some (.cells #[.bool t144, .int .u64 t145, .int .u64 t146] 24 (0, 0))) ∧ Aside0 (Below w.heap.size w wc))
       case first =>
        have H := HC11.out
        clear HC11
        by_cases c15 : t147 = true
        ·subst c15
         rw [if_pos rfl] at H
         by_cases c16 : a1 = true
         ·subst c16
          rw [if_pos rfl] at H
          have H' := aM H
          clear H
          go_wp2
          go_meet
          case rel => exact ⟨_, ((x20_1 == (wrap64 ((t140.length : Int) - 1)))), tF, H', ⟨by have := HK1.out; first | omega | exact Nat.le_refl _⟩, ⟨tR (Kd.R_mono (Kd.R_far (p := ⟨gb148, 2, none⟩) (Kd.R_far (p := ⟨gb148, 1, none⟩) (Kd.R_far (p := ⟨gb148, 0, none⟩) (Kd.R_types HO_6.out BK148.out (by decide)) (fun _ hk => hk.2) (.bool t144)) (fun _ hk => hk.2) (.int .u64 t145)) (fun _ hk => hk.2) (.int .u64 t146)) (fun _ hk => trivial))⟩, ⟨tR (Kd.R_mono (Kd.R_far (p := ⟨gb148, 2, none⟩) (Kd.R_far (p := ⟨gb148, 1, none⟩) (Kd.R_far (p := ⟨gb148, 0, none⟩) (Kd.R_types HO_7.out BK148.out (by decide)) (fun _ hk => hk.2) (.bool t144)) (fun _ hk => hk.2) (.int .u64 t145)) (fun _ hk => hk.2) (.int .u64 t146)) (fun _ hk => trivial))⟩, ⟨tR (Kd.R_mono (Kd.R_far (p := ⟨gb148, 2, none⟩) (Kd.R_far (p := ⟨gb148, 1, none⟩) (Kd.R_far (p := ⟨gb148, 0, none⟩) (Kd.R_types HO_18.out BK148.out (by decide)) (fun _ hk => hk.2) (.bool t144)) (fun _ hk => hk.2) (.int .u64 t145)) (fun _ hk => hk.2) (.int .u64 t146)) (fun _ hk => trivial))⟩, ⟨tP BK148.out⟩, ⟨tB HB.out⟩⟩
         ·replace c16 := Bool.eq_false_iff.mpr c16
          subst c16
          rw [if_neg (show ¬ (false = true) by decide)] at H
          have H' := aM H
          clear H
          go_wp2
          go_meet
          case rel => exact ⟨_, (false), tF, H', ⟨by have := HK1.out; first | omega | exact Nat.le_refl _⟩, ⟨tR (Kd.R_mono (Kd.R_far (p := ⟨gb148, 2, none⟩) (Kd.R_far (p := ⟨gb148, 1, none⟩) (Kd.R_far (p := ⟨gb148, 0, none⟩) (Kd.R_types HO_6.out BK148.out (by decide)) (fun _ hk => hk.2) (.bool t144)) (fun _ hk => hk.2) (.int .u64 t145)) (fun _ hk => hk.2) (.int .u64 t146)) (fun _ hk => trivial))⟩, ⟨tR (Kd.R_mono (Kd.R_far (p := ⟨gb148, 2, none⟩) (Kd.R_far (p := ⟨gb148, 1, none⟩) (Kd.R_far (p := ⟨gb148, 0, none⟩) (Kd.R_types HO_7.out BK148.out (by decide)) (fun _ hk => hk.2) (.bool t144)) (fun _ hk => hk.2) (.int .u64 t145)) (fun _ hk => hk.2) (.int .u64 t146)) (fun _ hk => trivial))⟩, ⟨tR (Kd.R_mono (Kd.R_far (p := ⟨gb148, 2, none⟩) (Kd.R_far (p := ⟨gb148, 1, none⟩) (Kd.R_far (p := ⟨gb148, 0, none⟩) (Kd.R_types HO_18.out BK148.out (by decide)) (fun _ hk => hk.2) (.bool t144)) (fun _ hk => hk.2) (.int .u64 t145)) (fun _ hk => hk.2) (.int .u64 t146)) (fun _ hk => trivial))⟩, ⟨tP BK148.out⟩, ⟨tB HB.out⟩⟩
        ·replace c15 := Bool.eq_false_iff.mpr c15
         subst c15
         rw [if_neg (show ¬ (false = true) by decide)] at H
         have H' := aM H
         clear H
         go_wp2
         go_meet
         case rel => exact ⟨_, (false), tF, H', ⟨by have := HK1.out; first | omega | exact Nat.le_refl _⟩, ⟨tR (Kd.R_mono (Kd.R_far (p := ⟨gb148, 2, none⟩) (Kd.R_far (p := ⟨gb148, 1, none⟩) (Kd.R_far (p := ⟨gb148, 0, none⟩) (Kd.R_types HO_6.out BK148.out (by decide)) (fun _ hk => hk.2) (.bool t144)) (fun _ hk => hk.2) (.int .u64 t145)) (fun _ hk => hk.2) (.int .u64 t146)) (fun _ hk => trivial))⟩, ⟨tR (Kd.R_mono (Kd.R_far (p := ⟨gb148, 2, none⟩) (Kd.R_far (p := ⟨gb148, 1, none⟩) (Kd.R_far (p := ⟨gb148, 0, none⟩) (Kd.R_types HO_7.out BK148.out (by decide)) (fun _ hk => hk.2) (.bool t144)) (fun _ hk => hk.2) (.int .u64 t145)) (fun _ hk => hk.2) (.int .u64 t146)) (fun _ hk => trivial))⟩, ⟨tR (Kd.R_mono (Kd.R_far (p := ⟨gb148, 2, none⟩) (Kd.R_far (p := ⟨gb148, 1, none⟩) (Kd.R_far (p := ⟨gb148, 0, none⟩) (Kd.R_types HO_18.out BK148.out (by decide)) (fun _ hk => hk.2) (.bool t144)) (fun _ hk => hk.2) (.int .u64 t145)) (fun _ hk => hk.2) (.int .u64 t146)) (fun _ hk => trivial))⟩, ⟨tP BK148.out⟩, ⟨tB HB.out⟩⟩
       case rest =>
        clear HC11
        try clear c1
        try clear p1
        try clear q1
        try clear hx1
        try clear p2
        try clear c3
        try clear c3b0
        try clear c3b1
        try clear c4
        try clear c6
        try clear p6
        try clear c7
        try clear c7b0
        try clear c8
        try clear c8b0
        try clear c9
        try clear c9b0
        try clear p14
        try clear q14
        try clear hx14
        try clear c15
        try clear c16
        try clear hcz14_0 hcz14_1 hcz14_2 hfz14_0 hfz14_1 hfz14_2
        try clear hx143_0
        try clear p143
        try clear p2
        try clear q143
        obtain ⟨kq, x40_10, rfl, HA, HJ10, HO_6, HO_7, HO_18, BK148, HB⟩ := hcut
        cases kq with
        | zero => exact absurd HA.out (by simp [addr_part.j1])
        | succ kj10 =>
         have H := HA.out
         clear HA
         simp only [addr_part.j1] at H
         by_cases c17 : x40_10 = true
         ·subst c17
          rw [if_pos rfl] at H
          obtain ⟨y149, hy149⟩ : ∃ y_ : List Int, y_ = (([IntKind.u16.wrap (t146 / 65536), IntKind.u16.wrap (t146)] : List Int)) := ⟨_, rfl⟩
          replace H : (if x6_1.length + y149.length < 70368744177664 then (some ((x6_1 ++ y149), true)) else (none)) = some (r1, r2) := by first | (rw [hy149]; with_reducible exact H) | (have H2_ := (Option.bind_some _ _).symm.trans H; rw [hy149]; with_reducible exact H2_) | (have H2_ := (Option.bind_some _ _).symm.trans H; with_reducible exact H2_) | with_reducible exact H | (rw [hy149]; exact H) | exact H
          have Ny149 := aM hy149
          clear hy149
          by_cases c18 : x6_1.length + y149.length < 70368744177664
          ·rw [if_pos c18] at H
           have LMc18 := aM c18
           clear c18
           obtain ⟨y152, hy152⟩ : ∃ y_ : List Int, y_ = (x6_1 ++ y149) := ⟨_, rfl⟩
           replace H : (some (y152, true)) = some (r1, r2) := by first | (rw [hy152]; with_reducible exact H) | (have H2_ := (Option.bind_some _ _).symm.trans H; rw [hy152]; with_reducible exact H2_) | (have H2_ := (Option.bind_some _ _).symm.trans H; with_reducible exact H2_) | with_reducible exact H | (rw [hy152]; exact H) | exact H
           have Ny152 := aM hy152
           clear hy152
           simp only [Option.some.injEq, Prod.mk.injEq] at H
           obtain ⟨rfl, rfl⟩ := H
           obtain ⟨hcz19_0, hcz19_1, hcz19_2, hfz19_0, hfz19_1, hfz19_2⟩ := kY3 BK148.out
           go_wp2_with (first | ((with_reducible refine gD 49 rfl ?_); (try (refine gate_guard (by rfl) ?_; dsimp only)); refine Kd.R_lit (Kd.int .u16) _ 77 ?hg (N := 49) ?hd (xs := ([IntKind.u16.wrap (t146 / 65536), IntKind.u16.wrap (t146)] : List Int)) (inner := [.int .u16 (IntKind.u16.wrap (t146 / 65536)), .int .u16 (IntKind.u16.wrap (t146))]) (ok := fun _ => True) (okp := fun _ => True) ?hr ?hp (fun _ hk => hk) trivial (Below.refl _ _) (Nat.le_refl _) (by simp) ?_; (case hd => rfl); (case hg => rfl); (case hr => first | (go_simp; done) | (go_simp; rfl)); (case hp => exact (Reps.one (show Kd.M (Kd.int .u16) _ _ _ (IntKind.u16.wrap (t146 / 65536)) [.int .u16 (IntKind.u16.wrap (t146 / 65536))] from rfl) (Reps.one (show Kd.M (Kd.int .u16) _ _ _ (IntKind.u16.wrap (t146)) [.int .u16 (IntKind.u16.wrap (t146))] from rfl) (Reps.none _ _)))); intro v150 w20 ho21 hb hg_ hnew_; clear hg_ hnew_; (first | rw [← Ny149.out] at ho21 | (simp only [Int.reduceToNat] at ho21; rw [← Ny149.out] at ho21)); have HO151 := aM (Kd.R_lower (Kd.R_new' ho21 (Kd.R_lt (tR HO_6.out))) (below_size (tB HB.out))); replace HO_6 := aM (Kd.R_elder' (tR HO_6.out) (Kd.R_base ho21) hb); replace HO_7 := aM (Kd.R_below (tR HO_7.out) hb); replace HO_18 := aM (Kd.R_below (tR HO_18.out) hb); replace BK148 := kB BK148.out hb; replace HB := bS HB.out hb; clear hb ho21; obtain ⟨Ao23, co23, eo23⟩ := Kd.R_slice HO151.out; subst eo23) | ((with_reducible refine gate_builtin (b := .append) (xs := #[.tmp 41, .tmp 49]) rfl ?_); (try (refine gate_guard (by rfl) ?_; dsimp only)); at_builtin; refine Kd.R_append_rows (Kd.int .u16) (w0 := w) w.heap.size rfl (.tmp 41) (.tmp 49) 66 77 (.int .u16 0) 2 rfl Tryz.underlying66 info77 rfl (by decide) (by omega) u6 x6_1 y149 _ _ _ (fun k_ => some k_ ≠ (.slice Ao23 y149.length co23 : Value).ownBlock) (fun _ => False) rfl rfl ?aO ?aR (fun _ _ h => h) (fun _ h => h.elim) ?aF ?aB ?aS ?aL ?_; (case aR => exact tC (Kd.R_reads' HO151.out).2.2); (case aB => exact (tB HB.out)); (case aF => exact (fun k_ hk => Kd.fresh' (Kd.R_lt (tR HO151.out)) k_ hk)); (case aO => exact (tR (Kd.R_mono HO_6.out (fun _ hk => hk.2)))); (case aS => exact (below_size (tB HB.out))); (case aL => have := LMc18.out; omega); intro v153 w22 ho hb hg hat; rw [← Ny152.out] at ho; have HO154 := aM ho; replace HO_7 := aM (Kd.R_over' (tR HO_7.out) (Kd.R_typed (tR HO_6.out)) (by decide) hg); replace HO_18 := aM (Kd.R_over' (tR HO_18.out) (Kd.R_typed (tR HO_6.out)) (by decide) hg); replace BK148 := aM (blk_grown (g := gb148) (o := .cells #[.bool t144, .int .u64 t145, .int .u64 t146] 24 (0, 0)) (tK BK148.out) hg (Kd.R_ne HO_6.out BK148.out (by decide))); replace HO151 := aM (Kd.R_after (ok := (fun _ => True)) (tR HO151.out) hg hat); replace HB := aM hb; clear HO_6; clear ho hb hg hat))
           go_ret2
           exact ⟨_, tE, tR (Kd.R_mono HO154.out (fun _ hk => trivial)), tB HB.out⟩
          ·rw [if_neg c18] at H
           exact absurd H (by simp)
         ·replace c17 := Bool.eq_false_iff.mpr c17
          subst c17
          rw [if_neg (show ¬ (false = true) by decide)] at H
          obtain ⟨⟨t155, t156⟩, A24, H⟩ := oB H
          try dsimp only at H
          by_cases c25 : t156 = true
          ·subst c25
           rw [if_pos rfl] at H
           by_cases c26 : x6_1.length < 70368744177664
           ·rw [if_pos c26] at H
            have LMc26 := aM c26
            clear c26
            obtain ⟨y157, hy157⟩ : ∃ y_ : List Int, y_ = (x6_1 ++ [IntKind.u16.wrap (t155)]) := ⟨_, rfl⟩
            replace H : (addr_part.l0 kj10 a1 y157 t140 t140 (t140.length : Int) (wrap64 (x20_1 + 1))) = some (r1, r2) := by first | (rw [hy157]; with_reducible exact H) | (have H2_ := (Option.bind_some _ _).symm.trans H; rw [hy157]; with_reducible exact H2_) | (have H2_ := (Option.bind_some _ _).symm.trans H; with_reducible exact H2_) | with_reducible exact H | (rw [hy157]; exact H) | exact H
            have Ny157 := aM hy157
            clear hy157
            have H' := aM H
            clear H
            go_wp2_with (first | ((with_reducible refine gC 67 rfl ?_); refine gL (some 53) Tryz.func67 #[.string (rdOf ByteArray.empty t140 x20_1), .int .i64 4, .int .i64 16] ?_; (with_reducible refine (addr_number.calls (rdOf ByteArray.empty t140 x20_1) 4 16 t155 true _ ⟨hG_.out.below (tG HB.out)⟩ A24.out).mono ?_); rintro e w27 ⟨rfl, hb⟩; refine ⟨_, rfl, ?_⟩; replace HO_6 := aM (Kd.R_below (tR HO_6.out) hb); replace HO_7 := aM (Kd.R_below (tR HO_7.out) hb); replace HO_18 := aM (Kd.R_below (tR HO_18.out) hb); replace BK148 := kB BK148.out hb; replace HB := bS HB.out hb; (try clear hb)) | ((with_reducible refine gate_builtin (b := .append) (xs := #[.tmp 58, .tmp 61]) rfl ?_); (try (refine gate_guard (by rfl) ?_; dsimp only)); at_builtin; refine Kd.R_append (Kd.int .u16) (w0 := w) w.heap.size rfl (.tmp 58) (.tmp 61) 66 77 (.int .u16 0) 2 rfl Tryz.underlying66 info77 rfl (by decide) (by omega) u6 x6_1 (IntKind.u16.wrap (t155)) [.int .u16 (IntKind.u16.wrap (t155))] (fun _ => True) (fun _ => False) rfl rfl ?aP (fun _ hk => hk.elim) ?aF ?aO ?aB ?aS ?aL ?_; (case aP => exact rfl); (case aB => exact (tB HB.out)); (case aF => exact (fun _ _ => trivial)); (case aO => exact (tR HO_6.out)); (case aS => exact (below_size (tB HB.out))); (case aL => have := LMc26.out; omega); intro v158 w28 ho hb hg hat; rw [← Ny157.out] at ho; have HO159 := aM ho; replace HO_7 := aM (Kd.R_over' (tR HO_7.out) (Kd.R_typed (tR HO_6.out)) (by decide) hg); replace HO_18 := aM (Kd.R_over' (tR HO_18.out) (Kd.R_typed (tR HO_6.out)) (by decide) hg); replace BK148 := aM (blk_grown (g := gb148) (o := .cells #[.bool t144, .int .u64 t145, .int .u64 t146] 24 (0, 0)) (tK BK148.out) hg (Kd.R_ne HO_6.out BK148.out (by decide))); replace HB := aM hb; clear HO_6; clear ho hb hg hat))
            go_roundg kj10
            case measure => have := HK1.out; have := HJ10.out; omega
            case rel => exact ⟨(y157), (wrap64 (x20_1 + 1)), tF, H', ⟨by have := HK1.out; have := HJ10.out; omega⟩, ⟨tR HO159.out⟩, ⟨tR HO_7.out⟩, ⟨tR HO_18.out⟩, ⟨tB HB.out⟩⟩
           ·rw [if_neg c26] at H
            exact absurd H (by simp)
          ·replace c25 := Bool.eq_false_iff.mpr c25
           subst c25
           rw [if_neg (show ¬ (false = true) by decide)] at H
           simp only [Option.some.injEq, Prod.mk.injEq] at H
           obtain ⟨rfl, rfl⟩ := H
           go_wp2_with (first | ((with_reducible refine gC 67 rfl ?_); refine gL (some 53) Tryz.func67 #[.string (rdOf ByteArray.empty t140 x20_1), .int .i64 4, .int .i64 16] ?_; (with_reducible refine (addr_number.calls (rdOf ByteArray.empty t140 x20_1) 4 16 t155 false _ ⟨hG_.out.below (tG HB.out)⟩ A24.out).mono ?_); rintro e w29 ⟨rfl, hb⟩; refine ⟨_, rfl, ?_⟩; replace HO_6 := aM (Kd.R_below (tR HO_6.out) hb); replace HO_7 := aM (Kd.R_below (tR HO_7.out) hb); replace HO_18 := aM (Kd.R_below (tR HO_18.out) hb); replace BK148 := kB BK148.out hb; replace HB := bS HB.out hb; (try clear hb)))
           go_ret2
           exact ⟨_, tE, by first | exact Kd.R_nil _ _ _ _ _ | exact Kd.N_nil _ _ _ _ _ | exact Kd.V_nil _ _ _ _ _ | exact Kd.Q_nil _ _ _ _ _ | exact Kd.S_nil _ _ _ _ _, tB HB.out⟩
      ·rw [if_neg c9] at H
       exact absurd H (by simp)
     ·rw [if_neg c8] at H
      exact absurd H (by simp)
    ·rw [if_neg c7] at H
     have c7b0 : decide (x20_1 < (t140.length : Int)) = false := decide_eq_false c7
     clear c7
     simp only [Option.some.injEq, Prod.mk.injEq] at H
     obtain ⟨rfl, rfl⟩ := H
     go_wp2
     go_ret2
     exact ⟨_, tE, tR HO_6.out, tB HB.out⟩



def addr_newer.f (k : Nat) (a0 : ByteArray) : Option (List Int × Bool) := AddrLib.newerF (addr_part.f k) a0
theorem addr_newer.calls (k : Nat) (a0 : ByteArray) (r1 : List Int) (r2 : Bool) (w : World) (hG_ : Aside0 (AddrLib.G w)) (h : addr_newer.f k a0 = some (r1, r2)) :
  Calls Tryz.prog 47 #[.string a0] w fun e w' => ∃ v0_ : Value, e = .returned (.tuple #[v0_, .bool r2]) ∧ Kd.R (Kd.int .u16) 77 w' w.heap.size (fun _ => True) v0_ r1 ∧ Below w.heap.size w w' :=
 AddrLib.newer_calls (addr_part.f k) (fun s b r w hg h => addr_part.calls k s b r.1 r.2 w ⟨hg⟩ h) a0 (r1, r2) h w hG_.out
theorem addr_newer.mono : ∀ a0 k, LeO (addr_newer.f k a0) (addr_newer.f (k + 1) a0) := fun a0 k => AddrLib.newerF_mono (fun s b => addr_part.mono s b k) a0

/-! ### addr_of: function 48 -/
def addr_of.l0 : Nat → List Int → Int → Int → Bool → Int → Int → Option (Bool × Int × Int)
 | 0, _, _, _, _, _, _ => none
 | k + 1, x7, x8, x9, x163000, x163001, x163002 => if x9 < x8 then (if 0 ≤ x9 then (if x9 < (x7.length : Int) then (if x9 < 4 then (addr_of.l0 k x7 x8 (wrap64 (x9 + 1)) x163000 (Go.bits .or .u64 (IntKind.u64.wrap (x163001 * 65536)) (IntKind.u64.wrap (rd x7 x9))) x163002) else (addr_of.l0 k x7 x8 (wrap64 (x9 + 1)) x163000 x163001 (Go.bits .or .u64 (IntKind.u64.wrap (x163002 * 65536)) (IntKind.u64.wrap (rd x7 x9))))) else (none)) else (none)) else (some (x163000, x163001, x163002))
def addr_of.f (k : Nat) (l0 : List Int) : Option (Bool × Int × Int) := addr_of.l0 k l0 (l0.length : Int) 0 true 0 0
theorem addr_of.mono_l : ∀ k, (∀ y0 y1 y2 y3 y4 y5, LeO (addr_of.l0 k y0 y1 y2 y3 y4 y5) (addr_of.l0 (k + 1) y0 y1 y2 y3 y4 y5))
 | 0 => fun _ _ _ _ _ _ r h => by simp [addr_of.l0] at h
 | k + 1 => by
  have ih0 := addr_of.mono_l k
  ·intro y0 y1 y2 y3 y4 y5
   unfold addr_of.l0
   repeat' first | (with_reducible first | apply ih0 | exact LeO.refl _ | exact LeO.none _ | refine LeO.ite ?_ ?_ | refine LeO.bind ?_ (fun _ => ?_)) | apply ih0 | exact LeO.none _ | refine LeO.ite ?_ ?_ | refine LeO.bind ?_ (fun _ => ?_)
theorem addr_of.mono : ∀ a0 k, LeO (addr_of.f k a0) (addr_of.f (k + 1) a0) := by
 intro a0 k
 have ih0 := addr_of.mono_l k
 unfold addr_of.f
 repeat' first | (with_reducible first | apply ih0 | exact LeO.refl _ | exact LeO.none _ | refine LeO.ite ?_ ?_ | refine LeO.bind ?_ (fun _ => ?_)) | apply ih0 | exact LeO.none _ | refine LeO.ite ?_ ?_ | refine LeO.bind ?_ (fun _ => ?_)
set_option maxHeartbeats 8000000 in
set_option maxRecDepth 100000 in
theorem addr_of.calls (k : Nat) (A0 : Option Addr) (c0 : Nat) (l0 : List Int) (r1 : Bool) (r2 : Int) (r3 : Int) (w : World) (hr0 : Kd.C (Kd.int .u16) w A0 l0.length l0) (hc0 : l0.length ≤ c0) (h : addr_of.f k l0 = some (r1, r2, r3)) :
  Calls Tryz.prog 48 #[.slice A0 l0.length c0] w fun e w' => e = .returned (.agg #[.bool r1, .int .u64 r2, .int .u64 r3]) ∧ Below w.heap.size w w' := by
 have hu24 := Tryz.underlying24
 have HR0 := aM hr0
 have HC0 := aM hc0
 clear hr0 hc0
 have HB := aM (Below.refl w.heap.size w)
 have H : (addr_of.l0 k l0 (l0.length : Int) 0 true 0 0) = some (r1, r2, r3) := h
 clear h
 have H' := aM H
 clear H
 go_enter Tryz.func48, Tryz.ntmps48
 go_wp2_with (first | ((with_reducible refine gD 2 rfl ?_); refine bX 2 #[.bool false, .int .u64 0, .int .u64 0] 24 ?_; intro gb161 hg w2 hbox hb; have BK161 := aM hbox; have GW161 := gS hg HB.out; have GE161 := GW161; replace HB := bS HB.out hb; clear hb hbox hg) | ((with_reducible refine gD 3 rfl ?_); refine bX 3 #[.bool false, .int .u64 0, .int .u64 0] 24 ?_; intro gb162 hg w3 hbox hb; have BK162 := aM hbox; have GW162 := gS hg HB.out; have GE162 := GW162; have NB161_162 := nB hg BK161.out; have NB162_161 := nS (nB hg BK161.out); replace BK161 := kB BK161.out hb; replace HB := bS HB.out hb; clear hb hbox hg; have hnb4 := NB162_161.out; have hnc4 := NB161_162.out; obtain ⟨hcz5_0, hcz5_1, hcz5_2, hfz5_0, hfz5_1, hfz5_2⟩ := kY3 BK162.out))
 go_loopg [9] k (fun kq v9 w' => ∃ (x9_1 : Int) (x163001_1 : Int) (x163002_1 : Int), v9 = .int .i64 x9_1 ∧ Aside0 (addr_of.l0 kq l0 (l0.length : Int) x9_1 true x163001_1 x163002_1 = some (r1, r2, r3)) ∧ Aside0 (kq ≤ k) ∧ Aside0 (w'.heap[gb161]? = some (.cells #[.bool false, .int .u64 0, .int .u64 0] 24 (0, 0))) ∧ Aside0 (w'.heap[gb162]? = some (.cells #[.bool true, .int .u64 x163001_1, .int .u64 x163002_1] 24 (0, 0))) ∧ Aside0 (Below w.heap.size w w'))
 case atStart => exact ⟨(0), (0), (0), tF, H', ⟨Nat.le_refl _⟩, ⟨tP BK161.out⟩, ⟨tP BK162.out⟩, ⟨tB HB.out⟩⟩
 case round =>
  clear H'
  try clear p2
  try clear c4
  try clear hcz5_0 hcz5_1 hcz5_2 hfz5_0 hfz5_1 hfz5_2
  obtain ⟨x9_1, x163001_1, x163002_1, rfl, HA, HK1, BK161, BK162, HB⟩ := hrel
  cases gk with
  | zero => exact absurd HA.out (by simp [addr_of.l0])
  | succ k1 =>
   have H := HA.out
   clear HA
   simp only [addr_of.l0] at H
   by_cases c6 : x9_1 < (l0.length : Int)
   ·rw [if_pos c6] at H
    have c6b0 : decide (x9_1 < (l0.length : Int)) = true := decide_eq_true c6
    clear c6
    by_cases c7 : 0 ≤ x9_1
    ·rw [if_pos c7] at H
     have c7b0 : decide (0 ≤ x9_1) = true := decide_eq_true c7
     clear c7
     by_cases c8 : x9_1 < (l0.length : Int)
     ·rw [if_pos c8] at H
      have c8b0 : decide (x9_1 < (l0.length : Int)) = true := decide_eq_true c8
      clear c8
      by_cases c9 : x9_1 < 4
      ·rw [if_pos c9] at H
       have c9b0 : decide (x9_1 < 4) = true := decide_eq_true c9
       clear c9
       have H' := aM H
       clear H
       have p163 : 0 ≤ (x9_1 : Int) := of_decide_eq_true (by first | (with_reducible assumption) | assumption)
       have q163 : x9_1 < (l0.length : Int) := of_decide_eq_true (by first | (with_reducible assumption) | assumption)
       obtain ⟨ad163, e163, hx163_0⟩ := Kd.at_int HR0.out x9_1 p163 q163
       cases e163
       replace hx163_0 := (HB.out.cell (World.block_lt_of_cell? w _ hx163_0)).trans hx163_0
       replace p163 := eq_true p163
       replace q163 := eq_true q163
       have hnb10 := NB162_161.out
       have hnc10 := NB161_162.out
       obtain ⟨hcz11_0, hcz11_1, hcz11_2, hfz11_0, hfz11_1, hfz11_2⟩ := kY3 BK162.out
       go_wp2
       go_roundg k1
       case measure => have := HK1.out; omega
       case rel => exact ⟨(wrap64 (x9_1 + 1)), (Go.bits .or .u64 (IntKind.u64.wrap (x163001_1 * 65536)) (IntKind.u64.wrap (rd l0 x9_1))), (x163002_1), tF, H', ⟨by have := HK1.out; omega⟩, ⟨tP BK161.out⟩, ⟨tP BK162.out⟩, ⟨tB HB.out⟩⟩
      ·rw [if_neg c9] at H
       have c9b0 : decide (x9_1 < 4) = false := decide_eq_false c9
       clear c9
       have H' := aM H
       clear H
       have p163 : 0 ≤ (x9_1 : Int) := of_decide_eq_true (by first | (with_reducible assumption) | assumption)
       have q163 : x9_1 < (l0.length : Int) := of_decide_eq_true (by first | (with_reducible assumption) | assumption)
       obtain ⟨ad163, e163, hx163_0⟩ := Kd.at_int HR0.out x9_1 p163 q163
       cases e163
       replace hx163_0 := (HB.out.cell (World.block_lt_of_cell? w _ hx163_0)).trans hx163_0
       replace p163 := eq_true p163
       replace q163 := eq_true q163
       have hnb12 := NB162_161.out
       have hnc12 := NB161_162.out
       obtain ⟨hcz13_0, hcz13_1, hcz13_2, hfz13_0, hfz13_1, hfz13_2⟩ := kY3 BK162.out
       go_wp2
       go_roundg k1
       case measure => have := HK1.out; omega
       case rel => exact ⟨(wrap64 (x9_1 + 1)), (x163001_1), (Go.bits .or .u64 (IntKind.u64.wrap (x163002_1 * 65536)) (IntKind.u64.wrap (rd l0 x9_1))), tF, H', ⟨by have := HK1.out; omega⟩, ⟨tP BK161.out⟩, ⟨tP BK162.out⟩, ⟨tB HB.out⟩⟩
     ·rw [if_neg c8] at H
      exact absurd H (by simp)
    ·rw [if_neg c7] at H
     exact absurd H (by simp)
   ·rw [if_neg c6] at H
    have c6b0 : decide (x9_1 < (l0.length : Int)) = false := decide_eq_false c6
    clear c6
    simp only [Option.some.injEq, Prod.mk.injEq] at H
    obtain ⟨rfl, rfl, rfl⟩ := H
    have hnb14 := NB162_161.out
    have hnc14 := NB161_162.out
    obtain ⟨hcz15_0, hcz15_1, hcz15_2, hfz15_0, hfz15_1, hfz15_2⟩ := kY3 BK162.out
    obtain ⟨hcz16_0, hcz16_1, hcz16_2, hfz16_0, hfz16_1, hfz16_2⟩ := kY3 BK161.out
    go_wp2
    refine bodyPost_ret (results_cell_row rfl _ _ gb161 24 #[.bool true, .int .u64 x163001_1, .int .u64 x163002_1] (0, 0) _ rfl (tP BK161.out) Tryz.underlying24 rfl (by kernel_rfl)) rfl ?_
    exact ⟨tE, tB HB.out⟩

/-! ### addr_Read: function 27 -/
def addr_Read.f (k : Nat) (a0 : ByteArray) : Option (Bool × Int × Int × Int) := (addr_elder.f k a0).bind fun bt165 => (if bt165.2.2.2 = true then (some (bt165.1, bt165.2.1, bt165.2.2.1, 0)) else ((strings_Contains.f a0 (⟨#[58]⟩ : ByteArray)).bind fun t170 => (if t170 = true then ((addr_newer.f k a0).bind fun bt171 => (if bt171.2 = true then ((addr_of.f k bt171.1).bind fun bt175 => (some (bt175.1, bt175.2.1, bt175.2.2, 0))) else (some (false, 0, 0, 7)))) else (some (false, 0, 0, 7)))))
theorem addr_Read.mono : ∀ a0 k, LeO (addr_Read.f k a0) (addr_Read.f (k + 1) a0) := by
 intro a0 k
 unfold addr_Read.f
 repeat' first | (with_reducible first | apply addr_elder.mono | apply addr_newer.mono | apply addr_of.mono | exact LeO.refl _ | exact LeO.none _ | refine LeO.ite ?_ ?_ | refine LeO.bind ?_ (fun _ => ?_)) | apply addr_elder.mono | apply addr_newer.mono | apply addr_of.mono | exact LeO.none _ | refine LeO.ite ?_ ?_ | refine LeO.bind ?_ (fun _ => ?_)
set_option maxHeartbeats 8000000 in
set_option maxRecDepth 100000 in
theorem addr_Read.calls (k : Nat) (a0 : ByteArray) (r1 : Bool) (r2 : Int) (r3 : Int) (r4 : Int) (w : World) (hG_ : Aside0 (AddrLib.G w)) (h : addr_Read.f k a0 = some (r1, r2, r3, r4)) :
  Calls Tryz.prog 27 #[.string a0] w fun e w' => e = .returned (.tuple #[.agg #[.bool r1, .int .u64 r2, .int .u64 r3], .int .i64 r4]) ∧ Below w.heap.size w w' := by
 have hu24 := Tryz.underlying24
 have HB := aM (Below.refl w.heap.size w)
 have H : ((addr_elder.f k a0).bind fun bt165 => (if bt165.2.2.2 = true then (some (bt165.1, bt165.2.1, bt165.2.2.1, 0)) else ((strings_Contains.f a0 (⟨#[58]⟩ : ByteArray)).bind fun t170 => (if t170 = true then ((addr_newer.f k a0).bind fun bt171 => (if bt171.2 = true then ((addr_of.f k bt171.1).bind fun bt175 => (some (bt175.1, bt175.2.1, bt175.2.2, 0))) else (some (false, 0, 0, 7)))) else (some (false, 0, 0, 7)))))) = some (r1, r2, r3, r4) := h
 clear h
 obtain ⟨⟨t165, t166, t167, t168⟩, A2, H⟩ := oB H
 try dsimp only at H
 by_cases c3 : t168 = true
 ·subst c3
  rw [if_pos rfl] at H
  simp only [Option.some.injEq, Prod.mk.injEq] at H
  obtain ⟨rfl, rfl, rfl, rfl⟩ := H
  go_enter Tryz.func27, Tryz.ntmps27
  go_wp2_with (first | ((with_reducible refine gD 2 rfl ?_); refine bX 2 #[.bool false, .int .u64 0, .int .u64 0] 24 ?_; intro gb164 hg w4 hbox hb; have BK164 := aM hbox; have GW164 := gS hg HB.out; have GE164 := GW164; replace HB := bS HB.out hb; clear hb hbox hg) | ((with_reducible refine gC 45 rfl ?_); refine gL (some 10) Tryz.func45 #[.string a0] ?_; (with_reducible refine (addr_elder.calls k a0 t165 t166 t167 true _ ⟨hG_.out.below (tG HB.out)⟩ A2.out).mono ?_); rintro e w5 ⟨rfl, hb⟩; refine ⟨_, rfl, ?_⟩; replace BK164 := kB BK164.out hb; replace HB := bS HB.out hb; (try clear hb)) | ((with_reducible refine gD 4 rfl ?_); refine bX 4 #[.bool false, .int .u64 0, .int .u64 0] 24 ?_; intro gb169 hg w6 hbox hb; have BK169 := aM hbox; have GW169 := gS hg HB.out; have GE169 := GW169; have NB164_169 := nB hg BK164.out; have NB169_164 := nS (nB hg BK164.out); replace BK164 := kB BK164.out hb; replace HB := bS HB.out hb; clear hb hbox hg; have hnb7 := NB169_164.out; have hnc7 := NB164_169.out; obtain ⟨hcz8_0, hcz8_1, hcz8_2, hfz8_0, hfz8_1, hfz8_2⟩ := kY3 BK169.out; obtain ⟨hcz9_0, hcz9_1, hcz9_2, hfz9_0, hfz9_1, hfz9_2⟩ := kY3 BK164.out))
  refine bodyPost_ret (results_ct rfl _ _ gb164 24 #[.bool t165, .int .u64 t166, .int .u64 t167] (0, 0) _ rfl (tP BK164.out) Tryz.underlying24 rfl (by kernel_rfl)) rfl ?_
  exact ⟨tE, tB HB.out⟩
 ·replace c3 := Bool.eq_false_iff.mpr c3
  subst c3
  rw [if_neg (show ¬ (false = true) by decide)] at H
  obtain ⟨t170, A10, H⟩ := oB H
  try dsimp only at H
  by_cases c11 : t170 = true
  ·subst c11
   rw [if_pos rfl] at H
   obtain ⟨⟨t171, t172⟩, A12, H⟩ := oB H
   try dsimp only at H
   by_cases c13 : t172 = true
   ·subst c13
    rw [if_pos rfl] at H
    obtain ⟨⟨t175, t176, t177⟩, A14, H⟩ := oB H
    try dsimp only at H
    simp only [Option.some.injEq, Prod.mk.injEq] at H
    obtain ⟨rfl, rfl, rfl, rfl⟩ := H
    go_enter Tryz.func27, Tryz.ntmps27
    go_wp2_with (first | ((with_reducible refine gD 2 rfl ?_); refine bX 2 #[.bool false, .int .u64 0, .int .u64 0] 24 ?_; intro gb164 hg w15 hbox hb; have BK164 := aM hbox; have GW164 := gS hg HB.out; have GE164 := GW164; replace HB := bS HB.out hb; clear hb hbox hg) | ((with_reducible refine gC 45 rfl ?_); refine gL (some 10) Tryz.func45 #[.string a0] ?_; (with_reducible refine (addr_elder.calls k a0 t165 t166 t167 false _ ⟨hG_.out.below (tG HB.out)⟩ A2.out).mono ?_); rintro e w16 ⟨rfl, hb⟩; refine ⟨_, rfl, ?_⟩; replace BK164 := kB BK164.out hb; replace HB := bS HB.out hb; (try clear hb)) | ((with_reducible refine gD 4 rfl ?_); refine bX 4 #[.bool false, .int .u64 0, .int .u64 0] 24 ?_; intro gb169 hg w17 hbox hb; have BK169 := aM hbox; have GW169 := gS hg HB.out; have GE169 := GW169; have NB164_169 := nB hg BK164.out; have NB169_164 := nS (nB hg BK164.out); replace BK164 := kB BK164.out hb; replace HB := bS HB.out hb; clear hb hbox hg; have hnb18 := NB169_164.out; have hnc18 := NB164_169.out; obtain ⟨hcz19_0, hcz19_1, hcz19_2, hfz19_0, hfz19_1, hfz19_2⟩ := kY3 BK169.out) | ((with_reducible refine gC 46 rfl ?_); refine gL (some 16) Tryz.func46 #[.string a0, .string (⟨#[58]⟩ : ByteArray)] ?_; (with_reducible refine (strings_Contains.calls a0 (⟨#[58]⟩ : ByteArray) true _ ⟨hG_.out.below (tG HB.out)⟩ A10.out).mono ?_); rintro e w' ⟨rfl, ⟨nd, rfl⟩⟩; refine ⟨_, rfl, ?_⟩) | ((with_reducible refine gC 47 rfl ?_); refine gL (some 19) Tryz.func47 #[.string a0] ?_; (with_reducible refine (addr_newer.calls k a0 t171 true _ ⟨hG_.out.below (tG HB.out)⟩ A12.out).mono ?_); rintro e w20 ⟨v173, rfl, ho0, hb⟩; refine ⟨_, rfl, ?_⟩; have HO174 := aM (Kd.R_lower ho0 (below_size (tB HB.out))); replace BK164 := kP (o := .cells #[.bool false, .int .u64 0, .int .u64 0] 24 (0, 0)) BK164.out hb; replace BK169 := kP (o := .cells #[.bool t165, .int .u64 t166, .int .u64 t167] 24 (0, 0)) BK169.out hb; replace HB := bS HB.out hb; (try clear hb); (try clear ho0); obtain ⟨Ao21, co21, eo21⟩ := Kd.R_slice HO174.out; subst eo21) | ((with_reducible refine gC 48 rfl ?_); refine gL (some 24) Tryz.func48 #[.slice Ao21 t171.length co21] ?_; (with_reducible refine (addr_of.calls k _ _ t171 t175 t176 t177 _ ?side1 ?side2 A14.out).mono ?_); (case side1 => exact tC (Kd.R_reads' HO174.out).2.2); (case side2 => exact (Kd.R_reads' HO174.out).2.1); rintro e w22 ⟨rfl, hb⟩; refine ⟨_, rfl, ?_⟩; replace HO174 := aM (Kd.R_below (tR HO174.out) hb); replace BK164 := kB BK164.out hb; replace BK169 := kB BK169.out hb; replace HB := bS HB.out hb; (try clear hb); obtain ⟨hcz23_0, hcz23_1, hcz23_2, hfz23_0, hfz23_1, hfz23_2⟩ := kY3 BK164.out))
    refine bodyPost_ret (results_ct rfl _ _ gb164 24 #[.bool t175, .int .u64 t176, .int .u64 t177] (0, 0) _ rfl (tP BK164.out) Tryz.underlying24 rfl (by kernel_rfl)) rfl ?_
    exact ⟨tE, tB HB.out⟩
   ·replace c13 := Bool.eq_false_iff.mpr c13
    subst c13
    rw [if_neg (show ¬ (false = true) by decide)] at H
    simp only [Option.some.injEq, Prod.mk.injEq] at H
    obtain ⟨rfl, rfl, rfl, rfl⟩ := H
    go_enter Tryz.func27, Tryz.ntmps27
    go_wp2_with (first | ((with_reducible refine gD 2 rfl ?_); refine bX 2 #[.bool false, .int .u64 0, .int .u64 0] 24 ?_; intro gb164 hg w24 hbox hb; have BK164 := aM hbox; have GW164 := gS hg HB.out; have GE164 := GW164; replace HB := bS HB.out hb; clear hb hbox hg) | ((with_reducible refine gC 45 rfl ?_); refine gL (some 10) Tryz.func45 #[.string a0] ?_; (with_reducible refine (addr_elder.calls k a0 t165 t166 t167 false _ ⟨hG_.out.below (tG HB.out)⟩ A2.out).mono ?_); rintro e w25 ⟨rfl, hb⟩; refine ⟨_, rfl, ?_⟩; replace BK164 := kB BK164.out hb; replace HB := bS HB.out hb; (try clear hb)) | ((with_reducible refine gD 4 rfl ?_); refine bX 4 #[.bool false, .int .u64 0, .int .u64 0] 24 ?_; intro gb169 hg w26 hbox hb; have BK169 := aM hbox; have GW169 := gS hg HB.out; have GE169 := GW169; have NB164_169 := nB hg BK164.out; have NB169_164 := nS (nB hg BK164.out); replace BK164 := kB BK164.out hb; replace HB := bS HB.out hb; clear hb hbox hg; have hnb27 := NB169_164.out; have hnc27 := NB164_169.out; obtain ⟨hcz28_0, hcz28_1, hcz28_2, hfz28_0, hfz28_1, hfz28_2⟩ := kY3 BK169.out) | ((with_reducible refine gC 46 rfl ?_); refine gL (some 16) Tryz.func46 #[.string a0, .string (⟨#[58]⟩ : ByteArray)] ?_; (with_reducible refine (strings_Contains.calls a0 (⟨#[58]⟩ : ByteArray) true _ ⟨hG_.out.below (tG HB.out)⟩ A10.out).mono ?_); rintro e w' ⟨rfl, ⟨nd, rfl⟩⟩; refine ⟨_, rfl, ?_⟩) | ((with_reducible refine gC 47 rfl ?_); refine gL (some 19) Tryz.func47 #[.string a0] ?_; (with_reducible refine (addr_newer.calls k a0 t171 false _ ⟨hG_.out.below (tG HB.out)⟩ A12.out).mono ?_); rintro e w29 ⟨v173, rfl, ho0, hb⟩; refine ⟨_, rfl, ?_⟩; have HO174 := aM (Kd.R_lower ho0 (below_size (tB HB.out))); replace BK164 := kP (o := .cells #[.bool false, .int .u64 0, .int .u64 0] 24 (0, 0)) BK164.out hb; replace BK169 := kP (o := .cells #[.bool t165, .int .u64 t166, .int .u64 t167] 24 (0, 0)) BK169.out hb; replace HB := bS HB.out hb; (try clear hb); (try clear ho0); obtain ⟨hcz30_0, hcz30_1, hcz30_2, hfz30_0, hfz30_1, hfz30_2⟩ := kY3 BK164.out))
    refine bodyPost_ret (results_ct rfl _ _ gb164 24 #[.bool false, .int .u64 0, .int .u64 0] (0, 0) _ rfl (tP BK164.out) Tryz.underlying24 rfl (by kernel_rfl)) rfl ?_
    exact ⟨tE, tB HB.out⟩
  ·replace c11 := Bool.eq_false_iff.mpr c11
   subst c11
   rw [if_neg (show ¬ (false = true) by decide)] at H
   simp only [Option.some.injEq, Prod.mk.injEq] at H
   obtain ⟨rfl, rfl, rfl, rfl⟩ := H
   go_enter Tryz.func27, Tryz.ntmps27
   go_wp2_with (first | ((with_reducible refine gD 2 rfl ?_); refine bX 2 #[.bool false, .int .u64 0, .int .u64 0] 24 ?_; intro gb164 hg w31 hbox hb; have BK164 := aM hbox; have GW164 := gS hg HB.out; have GE164 := GW164; replace HB := bS HB.out hb; clear hb hbox hg) | ((with_reducible refine gC 45 rfl ?_); refine gL (some 10) Tryz.func45 #[.string a0] ?_; (with_reducible refine (addr_elder.calls k a0 t165 t166 t167 false _ ⟨hG_.out.below (tG HB.out)⟩ A2.out).mono ?_); rintro e w32 ⟨rfl, hb⟩; refine ⟨_, rfl, ?_⟩; replace BK164 := kB BK164.out hb; replace HB := bS HB.out hb; (try clear hb)) | ((with_reducible refine gD 4 rfl ?_); refine bX 4 #[.bool false, .int .u64 0, .int .u64 0] 24 ?_; intro gb169 hg w33 hbox hb; have BK169 := aM hbox; have GW169 := gS hg HB.out; have GE169 := GW169; have NB164_169 := nB hg BK164.out; have NB169_164 := nS (nB hg BK164.out); replace BK164 := kB BK164.out hb; replace HB := bS HB.out hb; clear hb hbox hg; have hnb34 := NB169_164.out; have hnc34 := NB164_169.out; obtain ⟨hcz35_0, hcz35_1, hcz35_2, hfz35_0, hfz35_1, hfz35_2⟩ := kY3 BK169.out) | ((with_reducible refine gC 46 rfl ?_); refine gL (some 16) Tryz.func46 #[.string a0, .string (⟨#[58]⟩ : ByteArray)] ?_; (with_reducible refine (strings_Contains.calls a0 (⟨#[58]⟩ : ByteArray) false _ ⟨hG_.out.below (tG HB.out)⟩ A10.out).mono ?_); rintro e w' ⟨rfl, ⟨nd, rfl⟩⟩; refine ⟨_, rfl, ?_⟩; obtain ⟨hcz36_0, hcz36_1, hcz36_2, hfz36_0, hfz36_1, hfz36_2⟩ := kY3 BK164.out))
   refine bodyPost_ret (results_ct rfl _ _ gb164 24 #[.bool false, .int .u64 0, .int .u64 0] (0, 0) _ rfl (tP BK164.out) Tryz.underlying24 rfl (by kernel_rfl)) rfl ?_
   exact ⟨tE, tB HB.out⟩

def ranges_Read.f (k : Nat) (a0 : ByteArray) : Option (Bool × Int × Int × Int × Int) := AddrLib.rrF (addr_Read.f k) ranges_Check.f a0
theorem ranges_Read.calls (k : Nat) (a0 : ByteArray) (r1 : Bool) (r2 r3 r4 r5 : Int) (w : World) (hG_ : Aside0 (AddrLib.G w)) (h : ranges_Read.f k a0 = some (r1, r2, r3, r4, r5)) :
  Calls Tryz.prog 5 #[.string a0] w fun e w' => e = .returned (.tuple #[.agg #[.bool r1, .int .u64 r2, .int .u64 r3, .int .i64 r4], .int .i64 r5]) ∧ Below w.heap.size w w' :=
 AddrLib.rr_calls (addr_Read.f k) ranges_Check.f w (fun s t W hb h => addr_Read.calls k s t.1 t.2.1 t.2.2.1 t.2.2.2 W ⟨hG_.out.below hb⟩ h) (fun b x y n e w h => ranges_Check.calls b x y n e w h) a0 (r1, r2, r3, r4, r5) h
theorem ranges_Read.mono : ∀ a0 k, LeO (ranges_Read.f k a0) (ranges_Read.f (k + 1) a0) := fun a0 k => AddrLib.rrF_mono ranges_Check.f (fun s => addr_Read.mono s k) a0

end Go.Proofs.YtbalmnkbodcigaaGreatDoor.ORc
namespace Go.Proofs.YtbalmnkbodcigaaGreatDoor.ORc
open Go.RowKit Go.Proofs.YtbalmnkbodcigaaGreatDoorW.PrintWords Go.Proofs.YtbalmnkbodcigaaGreatDoorW.PrintLast Go.Proofs.YtbalmnkbodcigaaGreatDoorW.PrintMore
attribute [local go_sem] max2_int min2_int max_two min_two max_three min_three max_four min_four   -- for this text's walks alone
set_option linter.unusedVariables false
set_option linter.unusedSimpArgs false

/-! ### ranges_Size: function 13 -/
def ranges_Size.f (a0_0 : Bool) (a0_1 : Int) (a0_2 : Int) (a0_3 : Int) : Option (Int) := (ranges_Check.f a0_0 a0_1 a0_2 a0_3).bind fun t179 => (if t179 = 0 then ((ranges_wide.f a0_0 a0_1 a0_2).bind fun t180 => (if 0 ≤ (mn (wrap64 (t180 - a0_3)) 30) then (if (wrap64 (2 ^ (mn (wrap64 (t180 - a0_3)) 30).toNat)) < 65536 then (if 0 ≤ (wrap64 (t180 - a0_3)) then (some (shl .i64 1 (wrap64 (t180 - a0_3)))) else (none)) else (some 65536)) else (none))) else (some 0))
set_option maxHeartbeats 8000000 in
set_option maxRecDepth 100000 in
theorem ranges_Size.calls (a0_0 : Bool) (a0_1 : Int) (a0_2 : Int) (a0_3 : Int) (r : Int) (w : World) (h : ranges_Size.f a0_0 a0_1 a0_2 a0_3 = some r) :
  Calls Tryz.prog 13 #[.agg #[.bool a0_0, .int .u64 a0_1, .int .u64 a0_2, .int .i64 a0_3]] w fun e w' => e = .returned (.int .i64 r) ∧ Below w.heap.size w w' := by
 have hu26 := Tryz.underlying26
 have hu24 := Tryz.underlying24
 have HB := aM (Below.refl w.heap.size w)
 have H : ((ranges_Check.f a0_0 a0_1 a0_2 a0_3).bind fun t179 => (if t179 = 0 then ((ranges_wide.f a0_0 a0_1 a0_2).bind fun t180 => (if 0 ≤ (mn (wrap64 (t180 - a0_3)) 30) then (if (wrap64 (2 ^ (mn (wrap64 (t180 - a0_3)) 30).toNat)) < 65536 then (if 0 ≤ (wrap64 (t180 - a0_3)) then (some (shl .i64 1 (wrap64 (t180 - a0_3)))) else (none)) else (some 65536)) else (none))) else (some 0))) = some r := h
 clear h
 obtain ⟨t179, A2, H⟩ := oB H
 try dsimp only at H
 by_cases c3 : t179 = 0
 ·rw [if_pos c3] at H
  have c3b0 : (t179 == 0) = true := beq_iff_eq.mpr c3
  have c3b1 : (t179 != 0) = false := bne_eq_false_iff_eq.mpr c3
  clear c3
  obtain ⟨t180, A4, H⟩ := oB H
  try dsimp only at H
  obtain ⟨ji5, hji5⟩ : ∃ j_ : Int, (mn (wrap64 (t180 - a0_3)) 30) = j_ := ⟨_, rfl⟩
  replace H : (if 0 ≤ (ji5) then (if (wrap64 (2 ^ (ji5).toNat)) < 65536 then (if 0 ≤ (wrap64 (t180 - a0_3)) then (some (shl .i64 1 (wrap64 (t180 - a0_3)))) else (none)) else (some 65536)) else (none)) = some r := by first | (rw [hji5] at H; exact H) | (simp only [hji5] at H ⊢; exact H)
  (try rw [hji5] at A2)
  (try rw [hji5] at A4)
  (try (have hji5h : ji5 ≤ 30 := by (rw [← hji5]; unfold mn; (repeat' split) <;> omega)))
  (try (have hji5g : ji5 ≤ 64 := by omega))
  have hji5_ : (if 30 < (wrap64 (t180 - a0_3)) then 30 else (wrap64 (t180 - a0_3))) = ji5 := hji5
  by_cases c6 : 0 ≤ (ji5)
  ·rw [if_pos c6] at H
   have c6b0 := eq_true c6
   have c6b1 : decide (0 ≤ (ji5)) = true := decide_eq_true c6
   clear c6
   by_cases c7 : (wrap64 (2 ^ (ji5).toNat)) < 65536
   ·rw [if_pos c7] at H
    have c7b0 : decide ((wrap64 (2 ^ (ji5).toNat)) < 65536) = true := decide_eq_true c7
    clear c7
    obtain ⟨ji8, hji8⟩ : ∃ j_ : Int, (wrap64 (t180 - a0_3)) = j_ := ⟨_, rfl⟩
    replace H : (if 0 ≤ (ji8) then (some (shl .i64 1 (ji8))) else (none)) = some r := by first | (rw [hji8] at H; exact H) | (simp only [hji8] at H ⊢; exact H)
    (try rw [hji8] at A2)
    (try rw [hji8] at A4)
    have hji8w : (IntKind.i64.wrap (t180 - a0_3)) = ji8 := (i64_w _).trans hji8
    by_cases c9 : 0 ≤ (ji8)
    ·rw [if_pos c9] at H
     have c9b0 := eq_true c9
     have c9b1 : decide (0 ≤ (ji8)) = true := decide_eq_true c9
     clear c9
     obtain ⟨ji10, hji10⟩ : ∃ j_ : Int, (shl .i64 1 (ji8)) = j_ := ⟨_, rfl⟩
     replace H : (some ji10) = some r := by first | (rw [hji10] at H; exact H) | (simp only [hji10] at H ⊢; exact H)
     (try rw [hji10] at A2)
     (try rw [hji10] at A4)
     have hji10_ : (IntKind.i64.wrap (1 * 2 ^ min (ji8).toNat 64)) = ji10 := hji10
     have hji10z : (ji8) ≤ 64 → (IntKind.i64.wrap (1 * 2 ^ (ji8).toNat)) = ji10 := shl_small hji10
     have hji10u : (IntKind.i64.wrap (2 ^ min (ji8).toNat 64)) = ji10 := by have h_ := hji10_; rw [Int.one_mul] at h_; exact h_
     have hji10v : (ji8) ≤ 64 → (IntKind.i64.wrap (2 ^ (ji8).toNat)) = ji10 := fun hle_ => by have h_ := hji10z hle_; rw [Int.one_mul] at h_; exact h_
     have hji10y : (wrap64 (1 * 2 ^ min (ji8).toNat 64)) = ji10 := (i64_w _).symm.trans hji10_
     have hji10x : (ji8) ≤ 64 → (wrap64 (1 * 2 ^ (ji8).toNat)) = ji10 := fun h_ => (i64_w _).symm.trans (hji10z h_)
     obtain rfl := Option.some.inj H
     go_enter Tryz.func13, Tryz.ntmps13
     try go_wp2_with (first | ((with_reducible refine gD 1 rfl ?_); refine bX 1 #[.bool a0_0, .int .u64 a0_1, .int .u64 a0_2, .int .i64 a0_3] 26 ?_; intro gb178 hg w11 hbox hb; have BK178 := aM hbox; have GW178 := gS hg HB.out; have GE178 := GW178; replace HB := bS HB.out hb; clear hb hbox hg; obtain ⟨hcz12_0, hcz12_1, hcz12_2, hcz12_3, hfz12_0, hfz12_1, hfz12_2, hfz12_3⟩ := kY4 BK178.out) | ((with_reducible refine gC 15 rfl ?_); refine gL (some 5) Tryz.func15 #[.agg #[.bool a0_0, .int .u64 a0_1, .int .u64 a0_2, .int .i64 a0_3]] ?_; (with_reducible refine (ranges_Check.calls a0_0 a0_1 a0_2 a0_3 t179 _ A2.out).mono ?_); rintro e w13 ⟨rfl, hb⟩; refine ⟨_, rfl, ?_⟩; replace BK178 := kB BK178.out hb; replace HB := bS HB.out hb; (try clear hb)))
     replace BK178 := aM (kD BK178.out)
     replace HB := aM (bD HB.out)
     refine pS 7 (S := fun w' => cZ4 w' gb178 (.bool a0_0) (.int .u64 a0_1) (.int .u64 a0_2) (.int .i64 a0_3)) (ds := []) (kZ4 BK178.out) (fun hHeld => ?_)
     generalize w13.drew = w14 at BK178 HB hHeld ⊢
     refine pure_ (i := 0) (N := some 7) (v := ?_) (a' := ?_) #[true, false, false, false, false, false, false] rfl rfl (by kernel_rfl) (fun _ _ _ h => h) (Or.inl ⟨by rfl, ?_⟩) ?_ ?_
     rotate_left
     ·intro w'
      go_simp
      with_reducible rfl
     rotate_left
     ·simp only [Act.put, List.setIfInBounds_toArray, List.set_cons_zero, List.set_cons_succ, i64_w, i32_w]
      rfl
     refine pure_ (i := 3) (N := some 10) (v := ?_) (a' := ?_) #[true, false, false, true, false, false, false] rfl rfl (by kernel_rfl) (fun _ _ _ h => h) (Or.inl ⟨by rfl, ?_⟩) ?_ ?_
     rotate_left
     ·intro w'
      go_simp
      with_reducible rfl
     rotate_left
     ·simp only [Act.put, List.setIfInBounds_toArray, List.set_cons_zero, List.set_cons_succ, i64_w, i32_w]
      rfl
     refine take_ (i := 1) (N := some 8) (v := ?_) (a' := ?_) #[true, true, false, true, false, false, false] rfl rfl (by kernel_rfl) (fun _ _ _ h => h) (Or.inl ⟨by rfl, ?_⟩) hHeld ?_ ?_
     rotate_left
     ·rintro w' ⟨s0, s1, s2, s3⟩
      go_simp
      with_reducible rfl
     rotate_left
     ·simp only [Act.put, List.setIfInBounds_toArray, List.set_cons_zero, List.set_cons_succ, i64_w, i32_w]
      rfl
     refine take_ (i := 4) (N := some 11) (v := ?_) (a' := ?_) #[true, true, false, true, true, false, false] rfl rfl (by kernel_rfl) (fun _ _ _ h => h) (Or.inl ⟨by rfl, ?_⟩) hHeld ?_ ?_
     rotate_left
     ·rintro w' ⟨s0, s1, s2, s3⟩
      go_simp
      with_reducible rfl
     rotate_left
     ·simp only [Act.put, List.setIfInBounds_toArray, List.set_cons_zero, List.set_cons_succ, i64_w, i32_w]
      rfl
     refine one_ (i := 2) (N := some 9) #[true, true, true, true, true, false, false] rfl rfl (by kernel_rfl) (by decide) (fun K hK => ?_)
     refine gO Tryz.func34 #[.agg #[.bool a0_0, .int .u64 a0_1, .int .u64 a0_2]] ?_
     with_reducible refine (ranges_wide.calls a0_0 a0_1 a0_2 t180 _ A4.out).mono ?_
     rintro e w15 ⟨rfl, hb⟩
     refine ⟨_, rfl, ?_⟩
     replace BK178 := kB BK178.out hb
     replace HB := bS HB.out hb
     (try clear hb)
     refine hK.out _ _ (kZ4 BK178.out) (fun hHeld => ?_)
     clear hK K
     refine pN ?_
     refine pure_ (i := 5) (N := some 12) (v := ?_) (a' := ?_) #[true, true, true, true, true, true, false] rfl rfl (by kernel_rfl) (fun _ _ _ h => h) (Or.inl ⟨by rfl, ?_⟩) ?_ ?_
     rotate_left
     ·intro w'
      go_simp
      with_reducible rfl
     rotate_left
     ·simp only [Act.put, List.setIfInBounds_toArray, List.set_cons_zero, List.set_cons_succ, i64_w, i32_w]
      rfl
     refine pure_ (i := 6) (N := some 3) (v := ?_) (a' := ?_) #[true, true, true, true, true, true, true] rfl rfl (by kernel_rfl) (fun _ _ _ h => h) (Or.inl ⟨by rfl, ?_⟩) ?_ ?_
     rotate_left
     ·intro w'
      go_simp
      with_reducible rfl
     rotate_left
     ·simp only [Act.put, List.setIfInBounds_toArray, List.set_cons_zero, List.set_cons_succ, i64_w, i32_w]
      rfl
     refine done_ (by kernel_rfl) ?_
     by_cases hmn_ : 30 < ji8
     ·exfalso
      have e_ : ji5 = 30 := by rw [← hji5_, hji8, if_pos hmn_]
      subst e_
      exact absurd c7b0 (by decide +kernel)
     ·have e_ : ji5 = ji8 := by rw [← hji5_, hji8, if_neg hmn_]
      subst e_
      have c7b5 : decide (ji10 < 65536) = true := by rw [← hji10x (by omega), Int.one_mul]; exact c7b0
      try go_wp2
      go_ret
      exact ⟨by first | rfl | (simp [errW_none, errW_some] <;> rfl) | (simp only [← hji5, ← hji8, ← hji10]; first | rfl | (simp [errW_none, errW_some] <;> rfl)) | (simp [*, errW_none, errW_some] <;> rfl), tB HB.out⟩
    ·rw [if_neg c9] at H
     exact absurd H (by simp)
   ·rw [if_neg c7] at H
    have c7b0 : decide ((wrap64 (2 ^ (ji5).toNat)) < 65536) = false := decide_eq_false c7
    clear c7
    obtain rfl := Option.some.inj H
    go_enter Tryz.func13, Tryz.ntmps13
    try go_wp2_with (first | ((with_reducible refine gD 1 rfl ?_); refine bX 1 #[.bool a0_0, .int .u64 a0_1, .int .u64 a0_2, .int .i64 a0_3] 26 ?_; intro gb178 hg w16 hbox hb; have BK178 := aM hbox; have GW178 := gS hg HB.out; have GE178 := GW178; replace HB := bS HB.out hb; clear hb hbox hg; obtain ⟨hcz17_0, hcz17_1, hcz17_2, hcz17_3, hfz17_0, hfz17_1, hfz17_2, hfz17_3⟩ := kY4 BK178.out) | ((with_reducible refine gC 15 rfl ?_); refine gL (some 5) Tryz.func15 #[.agg #[.bool a0_0, .int .u64 a0_1, .int .u64 a0_2, .int .i64 a0_3]] ?_; (with_reducible refine (ranges_Check.calls a0_0 a0_1 a0_2 a0_3 t179 _ A2.out).mono ?_); rintro e w18 ⟨rfl, hb⟩; refine ⟨_, rfl, ?_⟩; replace BK178 := kB BK178.out hb; replace HB := bS HB.out hb; (try clear hb)))
    replace BK178 := aM (kD BK178.out)
    replace HB := aM (bD HB.out)
    refine pS 7 (S := fun w' => cZ4 w' gb178 (.bool a0_0) (.int .u64 a0_1) (.int .u64 a0_2) (.int .i64 a0_3)) (ds := []) (kZ4 BK178.out) (fun hHeld => ?_)
    generalize w18.drew = w19 at BK178 HB hHeld ⊢
    refine pure_ (i := 0) (N := some 7) (v := ?_) (a' := ?_) #[true, false, false, false, false, false, false] rfl rfl (by kernel_rfl) (fun _ _ _ h => h) (Or.inl ⟨by rfl, ?_⟩) ?_ ?_
    rotate_left
    ·intro w'
     go_simp
     with_reducible rfl
    rotate_left
    ·simp only [Act.put, List.setIfInBounds_toArray, List.set_cons_zero, List.set_cons_succ, i64_w, i32_w]
     rfl
    refine pure_ (i := 3) (N := some 10) (v := ?_) (a' := ?_) #[true, false, false, true, false, false, false] rfl rfl (by kernel_rfl) (fun _ _ _ h => h) (Or.inl ⟨by rfl, ?_⟩) ?_ ?_
    rotate_left
    ·intro w'
     go_simp
     with_reducible rfl
    rotate_left
    ·simp only [Act.put, List.setIfInBounds_toArray, List.set_cons_zero, List.set_cons_succ, i64_w, i32_w]
     rfl
    refine take_ (i := 1) (N := some 8) (v := ?_) (a' := ?_) #[true, true, false, true, false, false, false] rfl rfl (by kernel_rfl) (fun _ _ _ h => h) (Or.inl ⟨by rfl, ?_⟩) hHeld ?_ ?_
    rotate_left
    ·rintro w' ⟨s0, s1, s2, s3⟩
     go_simp
     with_reducible rfl
    rotate_left
    ·simp only [Act.put, List.setIfInBounds_toArray, List.set_cons_zero, List.set_cons_succ, i64_w, i32_w]
     rfl
    refine take_ (i := 4) (N := some 11) (v := ?_) (a' := ?_) #[true, true, false, true, true, false, false] rfl rfl (by kernel_rfl) (fun _ _ _ h => h) (Or.inl ⟨by rfl, ?_⟩) hHeld ?_ ?_
    rotate_left
    ·rintro w' ⟨s0, s1, s2, s3⟩
     go_simp
     with_reducible rfl
    rotate_left
    ·simp only [Act.put, List.setIfInBounds_toArray, List.set_cons_zero, List.set_cons_succ, i64_w, i32_w]
     rfl
    refine one_ (i := 2) (N := some 9) #[true, true, true, true, true, false, false] rfl rfl (by kernel_rfl) (by decide) (fun K hK => ?_)
    refine gO Tryz.func34 #[.agg #[.bool a0_0, .int .u64 a0_1, .int .u64 a0_2]] ?_
    with_reducible refine (ranges_wide.calls a0_0 a0_1 a0_2 t180 _ A4.out).mono ?_
    rintro e w20 ⟨rfl, hb⟩
    refine ⟨_, rfl, ?_⟩
    replace BK178 := kB BK178.out hb
    replace HB := bS HB.out hb
    (try clear hb)
    refine hK.out _ _ (kZ4 BK178.out) (fun hHeld => ?_)
    clear hK K
    refine pN ?_
    refine pure_ (i := 5) (N := some 12) (v := ?_) (a' := ?_) #[true, true, true, true, true, true, false] rfl rfl (by kernel_rfl) (fun _ _ _ h => h) (Or.inl ⟨by rfl, ?_⟩) ?_ ?_
    rotate_left
    ·intro w'
     go_simp
     with_reducible rfl
    rotate_left
    ·simp only [Act.put, List.setIfInBounds_toArray, List.set_cons_zero, List.set_cons_succ, i64_w, i32_w]
     rfl
    refine pure_ (i := 6) (N := some 3) (v := ?_) (a' := ?_) #[true, true, true, true, true, true, true] rfl rfl (by kernel_rfl) (fun _ _ _ h => h) (Or.inl ⟨by rfl, ?_⟩) ?_ ?_
    rotate_left
    ·intro w'
     go_simp
     with_reducible rfl
    rotate_left
    ·simp only [Act.put, List.setIfInBounds_toArray, List.set_cons_zero, List.set_cons_succ, i64_w, i32_w]
     rfl
    refine done_ (by kernel_rfl) ?_
    by_cases hmn_ : 30 < wrap64 (t180 - a0_3)
    ·have e_ : ji5 = 30 := by rw [← hji5_, if_pos hmn_]
     subst e_
     try go_wp2
     go_ret
     exact ⟨by first | rfl | (simp [errW_none, errW_some] <;> rfl) | (simp only [← hji5]; first | rfl | (simp [errW_none, errW_some] <;> rfl)) | (simp [*, errW_none, errW_some] <;> rfl), tB HB.out⟩
    ·have e_ : wrap64 (t180 - a0_3) = ji5 := by rw [← hji5_, if_neg hmn_]
     rw [e_] at hmn_ ⊢
     try go_wp2
     go_ret
     exact ⟨by first | rfl | (simp [errW_none, errW_some] <;> rfl) | (simp only [← hji5]; first | rfl | (simp [errW_none, errW_some] <;> rfl)) | (simp [*, errW_none, errW_some] <;> rfl), tB HB.out⟩
  ·rw [if_neg c6] at H
   exact absurd H (by simp)
 ·rw [if_neg c3] at H
  have c3b0 : (t179 == 0) = false := beq_eq_false_iff_ne.mpr c3
  have c3b1 : (t179 != 0) = true := bne_iff_ne.mpr c3
  obtain rfl := Option.some.inj H
  go_enter Tryz.func13, Tryz.ntmps13
  go_wp2_with (first | ((with_reducible refine gD 1 rfl ?_); refine bX 1 #[.bool a0_0, .int .u64 a0_1, .int .u64 a0_2, .int .i64 a0_3] 26 ?_; intro gb178 hg w21 hbox hb; have BK178 := aM hbox; have GW178 := gS hg HB.out; have GE178 := GW178; replace HB := bS HB.out hb; clear hb hbox hg; obtain ⟨hcz22_0, hcz22_1, hcz22_2, hcz22_3, hfz22_0, hfz22_1, hfz22_2, hfz22_3⟩ := kY4 BK178.out) | ((with_reducible refine gC 15 rfl ?_); refine gL (some 5) Tryz.func15 #[.agg #[.bool a0_0, .int .u64 a0_1, .int .u64 a0_2, .int .i64 a0_3]] ?_; (with_reducible refine (ranges_Check.calls a0_0 a0_1 a0_2 a0_3 t179 _ A2.out).mono ?_); rintro e w23 ⟨rfl, hb⟩; refine ⟨_, rfl, ?_⟩; replace BK178 := kB BK178.out hb; replace HB := bS HB.out hb; (try clear hb)))
  go_ret
  exact ⟨tE, tB HB.out⟩


def addr_Add.f (a0_0 : Bool) (a0_1 a0_2 : Int) (a1 : Int) : Option (Bool × Int × Int × Bool) := AddrLib.addF addr_Check.f a0_0 a0_1 a0_2 a1
theorem addr_Add.calls (a0_0 : Bool) (a0_1 a0_2 : Int) (a1 : Int) (r1 : Bool) (r2 r3 : Int) (r4 : Bool) (w : World) (h : addr_Add.f a0_0 a0_1 a0_2 a1 = some (r1, r2, r3, r4)) :
  Calls Tryz.prog 32 #[.agg #[.bool a0_0, .int .u64 a0_1, .int .u64 a0_2], .int .u64 a1] w fun e w' => e = .returned (.tuple #[.agg #[.bool r1, .int .u64 r2, .int .u64 r3], .bool r4]) ∧ Below w.heap.size w w' :=
 AddrLib.add_calls addr_Check.f (fun b x y e w h => addr_Check.calls b x y e w h) a0_0 a0_1 a0_2 a1 (r1, r2, r3, r4) h w

/-! ### ranges_At: function 9 -/
def ranges_At.f (a0_0 : Bool) (a0_1 : Int) (a0_2 : Int) (a0_3 : Int) (a1 : Int) : Option (Bool × Int × Int × Bool) := if a1 < 0 then (some (false, 0, 0, false)) else ((ranges_Size.f a0_0 a0_1 a0_2 a0_3).bind fun t183 => (if a1 ≥ t183 then (some (false, 0, 0, false)) else ((addr_Add.f a0_0 a0_1 a0_2 (IntKind.u64.wrap (a1))).bind fun bt184 => (some (bt184.1, bt184.2.1, bt184.2.2.1, bt184.2.2.2)))))
set_option maxHeartbeats 8000000 in
set_option maxRecDepth 100000 in
theorem ranges_At.calls (a0_0 : Bool) (a0_1 : Int) (a0_2 : Int) (a0_3 : Int) (a1 : Int) (r1 : Bool) (r2 : Int) (r3 : Int) (r4 : Bool) (w : World) (h : ranges_At.f a0_0 a0_1 a0_2 a0_3 a1 = some (r1, r2, r3, r4)) :
  Calls Tryz.prog 9 #[.agg #[.bool a0_0, .int .u64 a0_1, .int .u64 a0_2, .int .i64 a0_3], .int .i64 a1] w fun e w' => e = .returned (.tuple #[.agg #[.bool r1, .int .u64 r2, .int .u64 r3], .bool r4]) ∧ Below w.heap.size w w' := by
 have hu26 := Tryz.underlying26
 have hu24 := Tryz.underlying24
 have HB := aM (Below.refl w.heap.size w)
 have H : (if a1 < 0 then (some (false, 0, 0, false)) else ((ranges_Size.f a0_0 a0_1 a0_2 a0_3).bind fun t183 => (if a1 ≥ t183 then (some (false, 0, 0, false)) else ((addr_Add.f a0_0 a0_1 a0_2 (IntKind.u64.wrap (a1))).bind fun bt184 => (some (bt184.1, bt184.2.1, bt184.2.2.1, bt184.2.2.2)))))) = some (r1, r2, r3, r4) := h
 clear h
 by_cases c3 : a1 < 0
 ·rw [if_pos c3] at H
  have c3b0 : decide (a1 < 0) = true := decide_eq_true c3
  clear c3
  simp only [Option.some.injEq, Prod.mk.injEq] at H
  obtain ⟨rfl, rfl, rfl, rfl⟩ := H
  go_enter Tryz.func9, Tryz.ntmps9
  go_wp2_with (first | ((with_reducible refine gD 2 rfl ?_); refine bX 2 #[.bool a0_0, .int .u64 a0_1, .int .u64 a0_2, .int .i64 a0_3] 26 ?_; intro gb181 hg w4 hbox hb; have BK181 := aM hbox; have GW181 := gS hg HB.out; have GE181 := GW181; replace HB := bS HB.out hb; clear hb hbox hg) | ((with_reducible refine gD 4 rfl ?_); refine bX 4 #[.bool false, .int .u64 0, .int .u64 0] 24 ?_; intro gb182 hg w5 hbox hb; have BK182 := aM hbox; have GW182 := gS hg HB.out; have GE182 := GW182; have NB181_182 := nB hg BK181.out; have NB182_181 := nS (nB hg BK181.out); replace BK181 := kB BK181.out hb; replace HB := bS HB.out hb; clear hb hbox hg; have hnb6 := NB182_181.out; have hnc6 := NB181_182.out; obtain ⟨hcz7_0, hcz7_1, hcz7_2, hfz7_0, hfz7_1, hfz7_2⟩ := kY3 BK182.out))
  refine bodyPost_ret (results_ct rfl _ _ gb182 24 #[.bool false, .int .u64 0, .int .u64 0] (0, 0) _ rfl (tP BK182.out) Tryz.underlying24 rfl (by kernel_rfl)) rfl ?_
  exact ⟨tE, tB HB.out⟩
 ·rw [if_neg c3] at H
  have c3b0 : decide (a1 < 0) = false := decide_eq_false c3
  clear c3
  obtain ⟨t183, A8, H⟩ := oB H
  try dsimp only at H
  by_cases c9 : a1 ≥ t183
  ·rw [if_pos c9] at H
   have c9b0 : decide (t183 ≤ a1) = true := decide_eq_true c9
   clear c9
   simp only [Option.some.injEq, Prod.mk.injEq] at H
   obtain ⟨rfl, rfl, rfl, rfl⟩ := H
   go_enter Tryz.func9, Tryz.ntmps9
   go_wp2_with (first | ((with_reducible refine gD 2 rfl ?_); refine bX 2 #[.bool a0_0, .int .u64 a0_1, .int .u64 a0_2, .int .i64 a0_3] 26 ?_; intro gb181 hg w10 hbox hb; have BK181 := aM hbox; have GW181 := gS hg HB.out; have GE181 := GW181; replace HB := bS HB.out hb; clear hb hbox hg) | ((with_reducible refine gD 4 rfl ?_); refine bX 4 #[.bool false, .int .u64 0, .int .u64 0] 24 ?_; intro gb182 hg w11 hbox hb; have BK182 := aM hbox; have GW182 := gS hg HB.out; have GE182 := GW182; have NB181_182 := nB hg BK181.out; have NB182_181 := nS (nB hg BK181.out); replace BK181 := kB BK181.out hb; replace HB := bS HB.out hb; clear hb hbox hg; have hnb12 := NB181_182.out; have hnc12 := NB182_181.out; obtain ⟨hcz13_0, hcz13_1, hcz13_2, hcz13_3, hfz13_0, hfz13_1, hfz13_2, hfz13_3⟩ := kY4 BK181.out) | (go_at_call 13; (with_reducible refine (ranges_Size.calls a0_0 a0_1 a0_2 a0_3 t183 _ A8.out).mono ?_); rintro e w14 ⟨rfl, hb⟩; replace BK181 := kB BK181.out hb; replace BK182 := kB BK182.out hb; replace HB := bS HB.out hb; (try clear hb); obtain ⟨hcz15_0, hcz15_1, hcz15_2, hfz15_0, hfz15_1, hfz15_2⟩ := kY3 BK182.out))
   refine bodyPost_ret (results_ct rfl _ _ gb182 24 #[.bool false, .int .u64 0, .int .u64 0] (0, 0) _ rfl (tP BK182.out) Tryz.underlying24 rfl (by kernel_rfl)) rfl ?_
   exact ⟨tE, tB HB.out⟩
  ·rw [if_neg c9] at H
   have c9b0 : decide (t183 ≤ a1) = false := decide_eq_false c9
   clear c9
   obtain ⟨⟨t184, t185, t186, t187⟩, A16, H⟩ := oB H
   try dsimp only at H
   simp only [Option.some.injEq, Prod.mk.injEq] at H
   obtain ⟨rfl, rfl, rfl, rfl⟩ := H
   go_enter Tryz.func9, Tryz.ntmps9
   go_wp2_with (first | ((with_reducible refine gD 2 rfl ?_); refine bX 2 #[.bool a0_0, .int .u64 a0_1, .int .u64 a0_2, .int .i64 a0_3] 26 ?_; intro gb181 hg w17 hbox hb; have BK181 := aM hbox; have GW181 := gS hg HB.out; have GE181 := GW181; replace HB := bS HB.out hb; clear hb hbox hg) | ((with_reducible refine gD 4 rfl ?_); refine bX 4 #[.bool false, .int .u64 0, .int .u64 0] 24 ?_; intro gb182 hg w18 hbox hb; have BK182 := aM hbox; have GW182 := gS hg HB.out; have GE182 := GW182; have NB181_182 := nB hg BK181.out; have NB182_181 := nS (nB hg BK181.out); replace BK181 := kB BK181.out hb; replace HB := bS HB.out hb; clear hb hbox hg; have hnb19 := NB181_182.out; have hnc19 := NB182_181.out; obtain ⟨hcz20_0, hcz20_1, hcz20_2, hcz20_3, hfz20_0, hfz20_1, hfz20_2, hfz20_3⟩ := kY4 BK181.out) | (go_at_call 13; (with_reducible refine (ranges_Size.calls a0_0 a0_1 a0_2 a0_3 t183 _ A8.out).mono ?_); rintro e w21 ⟨rfl, hb⟩; replace BK181 := kB BK181.out hb; replace BK182 := kB BK182.out hb; replace HB := bS HB.out hb; (try clear hb); obtain ⟨hcz22_0, hcz22_1, hcz22_2, hcz22_3, hfz22_0, hfz22_1, hfz22_2, hfz22_3⟩ := kY4 BK181.out) | ((with_reducible refine gC 32 rfl ?_); refine gL (some 19) Tryz.func32 #[.agg #[.bool a0_0, .int .u64 a0_1, .int .u64 a0_2], .int .u64 (IntKind.u64.wrap (a1))] ?_; (with_reducible refine (addr_Add.calls a0_0 a0_1 a0_2 (IntKind.u64.wrap (a1)) t184 t185 t186 t187 _ A16.out).mono ?_); rintro e w23 ⟨rfl, hb⟩; refine ⟨_, rfl, ?_⟩; replace BK181 := kB BK181.out hb; replace BK182 := kB BK182.out hb; replace HB := bS HB.out hb; (try clear hb); obtain ⟨hcz24_0, hcz24_1, hcz24_2, hfz24_0, hfz24_1, hfz24_2⟩ := kY3 BK182.out))
   refine bodyPost_ret (results_ct rfl _ _ gb182 24 #[.bool t184, .int .u64 t185, .int .u64 t186] (0, 0) _ rfl (tP BK182.out) Tryz.underlying24 rfl (by kernel_rfl)) rfl ?_
   exact ⟨tE, tB HB.out⟩

end Go.Proofs.YtbalmnkbodcigaaGreatDoor.ORc
namespace Go.Proofs.YtbalmnkbodcigaaGreatDoor.ORc
open Go.RowKit Go.Proofs.YtbalmnkbodcigaaGreatDoorW.PrintWords Go.Proofs.YtbalmnkbodcigaaGreatDoorW.PrintLast Go.Proofs.YtbalmnkbodcigaaGreatDoorW.PrintMore
attribute [local go_sem] max2_int min2_int max_two min_two max_three min_three max_four min_four   -- for this text's walks alone
set_option linter.unusedVariables false
set_option linter.unusedSimpArgs false

attribute [local go_sem high] eqA24
/-! ### nameplatelaw05_lives: function 4 -/
def nameplatelaw05_lives.f (k : Nat)  : Option (Bool) := (ranges_Read.f k (⟨#[49, 48, 46, 48, 46, 48, 46, 48, 47, 51, 48]⟩ : ByteArray)).bind fun bt188 => ((ranges_At.f bt188.1 bt188.2.1 bt188.2.2.1 bt188.2.2.2.1 3).bind fun bt194 => ((ranges_Read.f k (⟨#[49, 48, 46, 48, 46, 48, 46, 49, 47, 51, 48]⟩ : ByteArray)).bind fun bt199 => (if bt188.2.2.2.2 = 0 then ((ranges_Size.f bt188.1 bt188.2.1 bt188.2.2.1 bt188.2.2.2.1).bind fun t205 => (if t205 = 4 then (if bt194.2.2.2 = true then ((addr_Four.f k 10 0 0 3).bind fun bt206 => (if (bt194.1 == bt206.1 && (bt194.2.1 == bt206.2.1 && (bt194.2.2.1 == bt206.2.2))) = true then (some (bt199.2.2.2.2 == 2)) else (some false))) else (some false)) else (some false))) else (some false))))
theorem nameplatelaw05_lives.mono : ∀ k, LeO (nameplatelaw05_lives.f k ) (nameplatelaw05_lives.f (k + 1) ) := by
 intro  k
 unfold nameplatelaw05_lives.f
 repeat' first | (with_reducible first | apply addr_Four.mono | apply ranges_Read.mono | exact LeO.refl _ | exact LeO.none _ | refine LeO.ite ?_ ?_ | refine LeO.bind ?_ (fun _ => ?_)) | apply addr_Four.mono | apply ranges_Read.mono | exact LeO.none _ | refine LeO.ite ?_ ?_ | refine LeO.bind ?_ (fun _ => ?_)
def nameplatelaw05_lives.T4 : Bool × List (List Nat × List Nat) := (true, [([], []), ([0], [0]), ([1], [1]), ([2], [2]), ([3, 2, 2], [2, 3]), ([4, 2], [2, 4]), ([2, 5], [2, 5]), ([6, 4], [6]), ([7], [7]), ([7, 8], [7, 8]), ([9, 7], [9]), ([10], [10]), ([10, 10], [10]), ([11, 12, 10], [10, 11, 12]), ([10, 13], [10, 13]), ([14, 12], [14]), ([15], [15]), ([16, 15], [15, 16]), ([15, 17], [15, 17]), ([18, 15, 0, 1, 2, 3, 4, 5, 6, 7, 8, 9, 10, 11, 12, 13, 14, 15, 16, 17, 18], [18])])
def nameplatelaw05_lives.B4 : List Nat := [0, 1, 3, 7, 15, 31, 63, 127, 255, 511, 1023, 2047, 2047, 8191, 16383, 32767, 65535, 131071, 262143, 524287]
theorem nameplatelaw05_lives.tab4 : rtab .any (opsOf Tryz.f4 4) = nameplatelaw05_lives.T4 := by kernel_rfl
theorem nameplatelaw05_lives.bits4 : waitsOk nameplatelaw05_lives.T4.2 nameplatelaw05_lives.B4 = true := by kernel_rfl
set_option maxHeartbeats 8000000 in
set_option maxRecDepth 100000 in
theorem nameplatelaw05_lives.calls (k : Nat)  (r : Bool) (w : World) (hG_ : Aside0 (AddrLib.G w)) (h : nameplatelaw05_lives.f k  = some r) :
  Calls Tryz.prog 4 #[] w fun e w' => e = .returned (.bool r) ∧ Below w.heap.size w w' := by
 have hu26 := Tryz.underlying26
 have hu24 := Tryz.underlying24
 have HB := aM (Below.refl w.heap.size w)
 have H : ((ranges_Read.f k (⟨#[49, 48, 46, 48, 46, 48, 46, 48, 47, 51, 48]⟩ : ByteArray)).bind fun bt188 => ((ranges_At.f bt188.1 bt188.2.1 bt188.2.2.1 bt188.2.2.2.1 3).bind fun bt194 => ((ranges_Read.f k (⟨#[49, 48, 46, 48, 46, 48, 46, 49, 47, 51, 48]⟩ : ByteArray)).bind fun bt199 => (if bt188.2.2.2.2 = 0 then ((ranges_Size.f bt188.1 bt188.2.1 bt188.2.2.1 bt188.2.2.2.1).bind fun t205 => (if t205 = 4 then (if bt194.2.2.2 = true then ((addr_Four.f k 10 0 0 3).bind fun bt206 => (if (bt194.1 == bt206.1 && (bt194.2.1 == bt206.2.1 && (bt194.2.2.1 == bt206.2.2))) = true then (some (bt199.2.2.2.2 == 2)) else (some false))) else (some false)) else (some false))) else (some false))))) = some r := h
 clear h
 obtain ⟨⟨t188, t189, t190, t191, t192⟩, A1, H⟩ := oB H
 try dsimp only at H
 obtain ⟨⟨t194, t195, t196, t197⟩, A2, H⟩ := oB H
 try dsimp only at H
 obtain ⟨⟨t199, t200, t201, t202, t203⟩, A3, H⟩ := oB H
 try dsimp only at H
 by_cases c4 : t192 = 0
 ·rw [if_pos c4] at H
  have c4b0 : (t192 == 0) = true := beq_iff_eq.mpr c4
  have c4b1 : (t192 != 0) = false := bne_eq_false_iff_eq.mpr c4
  clear c4
  obtain ⟨t205, A5, H⟩ := oB H
  try dsimp only at H
  by_cases c6 : t205 = 4
  ·rw [if_pos c6] at H
   have c6b0 : (t205 == 4) = true := beq_iff_eq.mpr c6
   have c6b1 : (t205 != 4) = false := bne_eq_false_iff_eq.mpr c6
   clear c6
   by_cases c7 : t197 = true
   ·subst c7
    rw [if_pos rfl] at H
    obtain ⟨⟨t206, t207, t208⟩, A8, H⟩ := oB H
    try dsimp only at H
    by_cases c9 : (t194 == t206 && (t195 == t207 && (t196 == t208))) = true
    ·rw [if_pos c9] at H
     have c9b0 : (t194 == t206 && (t195 == t207 && (t196 == t208))) = true := c9
     (try (have c9b1 : decide (t194 = t206 && (t195 == t207 && (t196 == t208))) = true := by simpa using c9))
     (try (have c9b2 : (t194 == t206 && (t195 == t207 && (t196 == t208))) = true := by simpa using c9))
     clear c9
     obtain rfl := Option.some.inj H
     go_enter Tryz.func4, Tryz.ntmps4
     try go_wp2_with (first | ((with_reducible refine gC 5 rfl ?_); refine gL (some 8) Tryz.func5 #[.string (⟨#[49, 48, 46, 48, 46, 48, 46, 48, 47, 51, 48]⟩ : ByteArray)] ?_; (with_reducible refine (ranges_Read.calls k (⟨#[49, 48, 46, 48, 46, 48, 46, 48, 47, 51, 48]⟩ : ByteArray) t188 t189 t190 t191 t192 _ ⟨hG_.out.below (tG HB.out)⟩ A1.out).mono ?_); rintro e w10 ⟨rfl, hb⟩; refine ⟨_, rfl, ?_⟩; replace HB := bS HB.out hb; (try clear hb)) | ((with_reducible refine gD 1 rfl ?_); refine bX 1 #[.bool false, .int .u64 0, .int .u64 0, .int .i64 0] 26 ?_; intro gb193 hg w11 hbox hb; have BK193 := aM hbox; have GW193 := gS hg HB.out; have GE193 := GW193; replace HB := bS HB.out hb; clear hb hbox hg; obtain ⟨hcz12_0, hcz12_1, hcz12_2, hcz12_3, hfz12_0, hfz12_1, hfz12_2, hfz12_3⟩ := kY4 BK193.out) | ((with_reducible refine gC 9 rfl ?_); refine gL (some 13) Tryz.func9 #[.agg #[.bool t188, .int .u64 t189, .int .u64 t190, .int .i64 t191], .int .i64 3] ?_; (with_reducible refine (ranges_At.calls t188 t189 t190 t191 3 t194 t195 t196 true _ A2.out).mono ?_); rintro e w13 ⟨rfl, hb⟩; refine ⟨_, rfl, ?_⟩; replace BK193 := kP (o := .cells #[.bool t188, .int .u64 t189, .int .u64 t190, .int .i64 t191] 26 (0, 0)) BK193.out hb; replace HB := bS HB.out hb; (try clear hb)) | ((with_reducible refine gD 3 rfl ?_); refine bX 3 #[.bool false, .int .u64 0, .int .u64 0] 24 ?_; intro gb198 hg w14 hbox hb; have BK198 := aM hbox; have GW198 := gS hg HB.out; have GE198 := GW198; have NB193_198 := nB hg BK193.out; have NB198_193 := nS (nB hg BK193.out); replace BK193 := kB BK193.out hb; replace HB := bS HB.out hb; clear hb hbox hg; have hnb15 := NB198_193.out; have hnc15 := NB193_198.out; obtain ⟨hcz16_0, hcz16_1, hcz16_2, hfz16_0, hfz16_1, hfz16_2⟩ := kY3 BK198.out) | ((with_reducible refine gC 5 rfl ?_); refine gL (some 17) Tryz.func5 #[.string (⟨#[49, 48, 46, 48, 46, 48, 46, 49, 47, 51, 48]⟩ : ByteArray)] ?_; (with_reducible refine (ranges_Read.calls k (⟨#[49, 48, 46, 48, 46, 48, 46, 49, 47, 51, 48]⟩ : ByteArray) t199 t200 t201 t202 t203 _ ⟨hG_.out.below (tG HB.out)⟩ A3.out).mono ?_); rintro e w17 ⟨rfl, hb⟩; refine ⟨_, rfl, ?_⟩; replace BK193 := kP (o := .cells #[.bool t188, .int .u64 t189, .int .u64 t190, .int .i64 t191] 26 (0, 0)) BK193.out hb; replace BK198 := kP (o := .cells #[.bool t194, .int .u64 t195, .int .u64 t196] 24 (0, 0)) BK198.out hb; replace HB := bS HB.out hb; (try clear hb)) | ((with_reducible refine gD 5 rfl ?_); refine bX 5 #[.bool false, .int .u64 0, .int .u64 0, .int .i64 0] 26 ?_; intro gb204 hg w18 hbox hb; have BK204 := aM hbox; have GW204 := gS hg HB.out; have GE204 := GW204; have NB193_204 := nB hg BK193.out; have NB204_193 := nS (nB hg BK193.out); have NB198_204 := nB hg BK198.out; have NB204_198 := nS (nB hg BK198.out); replace BK193 := kB BK193.out hb; replace BK198 := kB BK198.out hb; replace HB := bS HB.out hb; clear hb hbox hg; have hnb19 := NB204_193.out; have hnc19 := NB193_204.out; have hnb20 := NB204_198.out; have hnc20 := NB198_204.out; obtain ⟨hcz21_0, hcz21_1, hcz21_2, hcz21_3, hfz21_0, hfz21_1, hfz21_2, hfz21_3⟩ := kY4 BK204.out))
     have n0_ : Aside0 (((((w18.setCell ⟨gb204, 0, none⟩ (.bool t199)).setCell ⟨gb204, 1, none⟩ (.int .u64 t200)).setCell ⟨gb204, 2, none⟩ (.int .u64 t201)).setCell ⟨gb204, 3, none⟩ (.int .i64 t202)).heap[gb193]? = some (.cells #[.bool t188, .int .u64 t189, .int .u64 t190, .int .i64 t191] 26 (0, 0))) := ⟨tP BK193.out⟩
     have n1_ : Aside0 (((((w18.setCell ⟨gb204, 0, none⟩ (.bool t199)).setCell ⟨gb204, 1, none⟩ (.int .u64 t200)).setCell ⟨gb204, 2, none⟩ (.int .u64 t201)).setCell ⟨gb204, 3, none⟩ (.int .i64 t202)).heap[gb198]? = some (.cells #[.bool t194, .int .u64 t195, .int .u64 t196] 24 (0, 0))) := ⟨tP BK198.out⟩
     have n2_ : Aside0 (((((w18.setCell ⟨gb204, 0, none⟩ (.bool t199)).setCell ⟨gb204, 1, none⟩ (.int .u64 t200)).setCell ⟨gb204, 2, none⟩ (.int .u64 t201)).setCell ⟨gb204, 3, none⟩ (.int .i64 t202)).heap[gb204]? = some (.cells #[.bool t199, .int .u64 t200, .int .u64 t201, .int .i64 t202] 26 (0, 0))) := ⟨tP BK204.out⟩
     have n3_ : Aside0 (Below w.heap.size w ((((w18.setCell ⟨gb204, 0, none⟩ (.bool t199)).setCell ⟨gb204, 1, none⟩ (.int .u64 t200)).setCell ⟨gb204, 2, none⟩ (.int .u64 t201)).setCell ⟨gb204, 3, none⟩ (.int .i64 t202))) := ⟨tB HB.out⟩
     (try clear BK193)
     (try clear BK198)
     (try clear BK204)
     (try clear HB)
     (try (repeat rw [setCell_drewN_]))
     generalize ((((w18.setCell ⟨gb204, 0, none⟩ (.bool t199)).setCell ⟨gb204, 1, none⟩ (.int .u64 t200)).setCell ⟨gb204, 2, none⟩ (.int .u64 t201)).setCell ⟨gb204, 3, none⟩ (.int .i64 t202)) = w22 at n0_ n1_ n2_ n3_ ⊢
     have BK193 := n0_
     have BK198 := n1_
     have BK204 := n2_
     have HB := n3_
     clear n0_ n1_ n2_ n3_
     replace BK193 := aM (kD BK193.out)
     replace BK198 := aM (kD BK198.out)
     replace BK204 := aM (kD BK204.out)
     replace HB := aM (bD HB.out)
     refine pS 20 (S := fun w' => cZ4 w' gb193 (.bool t188) (.int .u64 t189) (.int .u64 t190) (.int .i64 t191) ∧ cZ3 w' gb198 (.bool t194) (.int .u64 t195) (.int .u64 t196)) (ds := []) ⟨kZ4 BK193.out, kZ3 BK198.out⟩ (fun hHeld => ?_); refine with_tabW nameplatelaw05_lives.tab4 nameplatelaw05_lives.bits4 (fun HT_ HW_ => ?_)
     generalize w22.drew = w23 at BK193 BK198 BK204 HB hHeld ⊢
     refine pP 0 20 ?_
     refine pP 1 21 ?_
     refine pP 2 22 ?_
     refine pT 3 23 ?_
     refine pO 4 24 (fun K hK => ?_)
     refine gO Tryz.func13 #[.agg #[.bool t188, .int .u64 t189, .int .u64 t190, .int .i64 t191]] ?_
     with_reducible refine (ranges_Size.calls t188 t189 t190 t191 t205 _ A5.out).mono ?_
     rintro e w24 ⟨rfl, hb⟩
     refine ⟨_, rfl, ?_⟩
     replace BK193 := kB BK193.out hb
     replace BK198 := kB BK198.out hb
     replace BK204 := kB BK204.out hb
     replace HB := bS HB.out hb
     (try clear hb)
     refine hK.out _ _ ⟨kZ4 BK193.out, kZ3 BK198.out⟩ (fun hHeld => ?_)
     clear hK K
     refine pN ?_
     refine pP 5 25 ?_
     refine pP 6 26 ?_
     refine pP 7 27 ?_
     refine pP 8 28 ?_
     refine pP 9 29 ?_
     refine pP 10 30 ?_
     refine pT 11 31 ?_
     refine pO 12 32 (fun K hK => ?_)
     refine gO Tryz.func25 #[.int .u8 10, .int .u8 0, .int .u8 0, .int .u8 3] ?_
     with_reducible refine (addr_Four.calls k 10 0 0 3 t206 t207 t208 _ A8.out).mono ?_
     rintro e w25 ⟨rfl, hb⟩
     refine ⟨_, rfl, ?_⟩
     replace BK193 := kB BK193.out hb
     replace BK198 := kB BK198.out hb
     replace BK204 := kB BK204.out hb
     replace HB := bS HB.out hb
     (try clear hb)
     refine hK.out _ _ ⟨kZ4 BK193.out, kZ3 BK198.out⟩ (fun hHeld => ?_)
     clear hK K
     refine pN ?_
     refine pP 13 33 ?_
     refine pP 14 34 ?_
     refine pP 15 35 ?_
     refine pP 16 36 ?_
     refine pP 17 37 ?_
     refine pP 18 38 ?_
     refine pP 19 0 ?_
     refine pD ?_
     try go_wp2
     go_ret
     exact ⟨tE, tB HB.out⟩
    ·rw [if_neg c9] at H
     have c9b0 : (t194 == t206 && (t195 == t207 && (t196 == t208))) = false := by simpa using c9
     (try (have c9b1 : decide (t194 = t206 && (t195 == t207 && (t196 == t208))) = false := by simpa using c9))
     (try (have c9b2 : (t194 == t206 && (t195 == t207 && (t196 == t208))) = false := by simpa using c9))
     (try (have c9b3 : ¬ (t194 = t206 && (t195 == t207 && (t196 == t208))) := by simpa using c9))
     clear c9
     obtain rfl := Option.some.inj H
     go_enter Tryz.func4, Tryz.ntmps4
     try go_wp2_with (first | ((with_reducible refine gC 5 rfl ?_); refine gL (some 8) Tryz.func5 #[.string (⟨#[49, 48, 46, 48, 46, 48, 46, 48, 47, 51, 48]⟩ : ByteArray)] ?_; (with_reducible refine (ranges_Read.calls k (⟨#[49, 48, 46, 48, 46, 48, 46, 48, 47, 51, 48]⟩ : ByteArray) t188 t189 t190 t191 t192 _ ⟨hG_.out.below (tG HB.out)⟩ A1.out).mono ?_); rintro e w26 ⟨rfl, hb⟩; refine ⟨_, rfl, ?_⟩; replace HB := bS HB.out hb; (try clear hb)) | ((with_reducible refine gD 1 rfl ?_); refine bX 1 #[.bool false, .int .u64 0, .int .u64 0, .int .i64 0] 26 ?_; intro gb193 hg w27 hbox hb; have BK193 := aM hbox; have GW193 := gS hg HB.out; have GE193 := GW193; replace HB := bS HB.out hb; clear hb hbox hg; obtain ⟨hcz28_0, hcz28_1, hcz28_2, hcz28_3, hfz28_0, hfz28_1, hfz28_2, hfz28_3⟩ := kY4 BK193.out) | ((with_reducible refine gC 9 rfl ?_); refine gL (some 13) Tryz.func9 #[.agg #[.bool t188, .int .u64 t189, .int .u64 t190, .int .i64 t191], .int .i64 3] ?_; (with_reducible refine (ranges_At.calls t188 t189 t190 t191 3 t194 t195 t196 true _ A2.out).mono ?_); rintro e w29 ⟨rfl, hb⟩; refine ⟨_, rfl, ?_⟩; replace BK193 := kP (o := .cells #[.bool t188, .int .u64 t189, .int .u64 t190, .int .i64 t191] 26 (0, 0)) BK193.out hb; replace HB := bS HB.out hb; (try clear hb)) | ((with_reducible refine gD 3 rfl ?_); refine bX 3 #[.bool false, .int .u64 0, .int .u64 0] 24 ?_; intro gb198 hg w30 hbox hb; have BK198 := aM hbox; have GW198 := gS hg HB.out; have GE198 := GW198; have NB193_198 := nB hg BK193.out; have NB198_193 := nS (nB hg BK193.out); replace BK193 := kB BK193.out hb; replace HB := bS HB.out hb; clear hb hbox hg; have hnb31 := NB198_193.out; have hnc31 := NB193_198.out; obtain ⟨hcz32_0, hcz32_1, hcz32_2, hfz32_0, hfz32_1, hfz32_2⟩ := kY3 BK198.out) | ((with_reducible refine gC 5 rfl ?_); refine gL (some 17) Tryz.func5 #[.string (⟨#[49, 48, 46, 48, 46, 48, 46, 49, 47, 51, 48]⟩ : ByteArray)] ?_; (with_reducible refine (ranges_Read.calls k (⟨#[49, 48, 46, 48, 46, 48, 46, 49, 47, 51, 48]⟩ : ByteArray) t199 t200 t201 t202 t203 _ ⟨hG_.out.below (tG HB.out)⟩ A3.out).mono ?_); rintro e w33 ⟨rfl, hb⟩; refine ⟨_, rfl, ?_⟩; replace BK193 := kP (o := .cells #[.bool t188, .int .u64 t189, .int .u64 t190, .int .i64 t191] 26 (0, 0)) BK193.out hb; replace BK198 := kP (o := .cells #[.bool t194, .int .u64 t195, .int .u64 t196] 24 (0, 0)) BK198.out hb; replace HB := bS HB.out hb; (try clear hb)) | ((with_reducible refine gD 5 rfl ?_); refine bX 5 #[.bool false, .int .u64 0, .int .u64 0, .int .i64 0] 26 ?_; intro gb204 hg w34 hbox hb; have BK204 := aM hbox; have GW204 := gS hg HB.out; have GE204 := GW204; have NB193_204 := nB hg BK193.out; have NB204_193 := nS (nB hg BK193.out); have NB198_204 := nB hg BK198.out; have NB204_198 := nS (nB hg BK198.out); replace BK193 := kB BK193.out hb; replace BK198 := kB BK198.out hb; replace HB := bS HB.out hb; clear hb hbox hg; have hnb35 := NB204_193.out; have hnc35 := NB193_204.out; have hnb36 := NB204_198.out; have hnc36 := NB198_204.out; obtain ⟨hcz37_0, hcz37_1, hcz37_2, hcz37_3, hfz37_0, hfz37_1, hfz37_2, hfz37_3⟩ := kY4 BK204.out))
     have n0_ : Aside0 (((((w34.setCell ⟨gb204, 0, none⟩ (.bool t199)).setCell ⟨gb204, 1, none⟩ (.int .u64 t200)).setCell ⟨gb204, 2, none⟩ (.int .u64 t201)).setCell ⟨gb204, 3, none⟩ (.int .i64 t202)).heap[gb193]? = some (.cells #[.bool t188, .int .u64 t189, .int .u64 t190, .int .i64 t191] 26 (0, 0))) := ⟨tP BK193.out⟩
     have n1_ : Aside0 (((((w34.setCell ⟨gb204, 0, none⟩ (.bool t199)).setCell ⟨gb204, 1, none⟩ (.int .u64 t200)).setCell ⟨gb204, 2, none⟩ (.int .u64 t201)).setCell ⟨gb204, 3, none⟩ (.int .i64 t202)).heap[gb198]? = some (.cells #[.bool t194, .int .u64 t195, .int .u64 t196] 24 (0, 0))) := ⟨tP BK198.out⟩
     have n2_ : Aside0 (((((w34.setCell ⟨gb204, 0, none⟩ (.bool t199)).setCell ⟨gb204, 1, none⟩ (.int .u64 t200)).setCell ⟨gb204, 2, none⟩ (.int .u64 t201)).setCell ⟨gb204, 3, none⟩ (.int .i64 t202)).heap[gb204]? = some (.cells #[.bool t199, .int .u64 t200, .int .u64 t201, .int .i64 t202] 26 (0, 0))) := ⟨tP BK204.out⟩
     have n3_ : Aside0 (Below w.heap.size w ((((w34.setCell ⟨gb204, 0, none⟩ (.bool t199)).setCell ⟨gb204, 1, none⟩ (.int .u64 t200)).setCell ⟨gb204, 2, none⟩ (.int .u64 t201)).setCell ⟨gb204, 3, none⟩ (.int .i64 t202))) := ⟨tB HB.out⟩
     (try clear BK193)
     (try clear BK198)
     (try clear BK204)
     (try clear HB)
     (try (repeat rw [setCell_drewN_]))
     generalize ((((w34.setCell ⟨gb204, 0, none⟩ (.bool t199)).setCell ⟨gb204, 1, none⟩ (.int .u64 t200)).setCell ⟨gb204, 2, none⟩ (.int .u64 t201)).setCell ⟨gb204, 3, none⟩ (.int .i64 t202)) = w38 at n0_ n1_ n2_ n3_ ⊢
     have BK193 := n0_
     have BK198 := n1_
     have BK204 := n2_
     have HB := n3_
     clear n0_ n1_ n2_ n3_
     replace BK193 := aM (kD BK193.out)
     replace BK198 := aM (kD BK198.out)
     replace BK204 := aM (kD BK204.out)
     replace HB := aM (bD HB.out)
     refine pS 20 (S := fun w' => cZ4 w' gb193 (.bool t188) (.int .u64 t189) (.int .u64 t190) (.int .i64 t191) ∧ cZ3 w' gb198 (.bool t194) (.int .u64 t195) (.int .u64 t196)) (ds := []) ⟨kZ4 BK193.out, kZ3 BK198.out⟩ (fun hHeld => ?_); refine with_tabW nameplatelaw05_lives.tab4 nameplatelaw05_lives.bits4 (fun HT_ HW_ => ?_)
     generalize w38.drew = w39 at BK193 BK198 BK204 HB hHeld ⊢
     refine pP 0 20 ?_
     refine pP 1 21 ?_
     refine pP 2 22 ?_
     refine pT 3 23 ?_
     refine pO 4 24 (fun K hK => ?_)
     refine gO Tryz.func13 #[.agg #[.bool t188, .int .u64 t189, .int .u64 t190, .int .i64 t191]] ?_
     with_reducible refine (ranges_Size.calls t188 t189 t190 t191 t205 _ A5.out).mono ?_
     rintro e w40 ⟨rfl, hb⟩
     refine ⟨_, rfl, ?_⟩
     replace BK193 := kB BK193.out hb
     replace BK198 := kB BK198.out hb
     replace BK204 := kB BK204.out hb
     replace HB := bS HB.out hb
     (try clear hb)
     refine hK.out _ _ ⟨kZ4 BK193.out, kZ3 BK198.out⟩ (fun hHeld => ?_)
     clear hK K
     refine pN ?_
     refine pP 5 25 ?_
     refine pP 6 26 ?_
     refine pP 7 27 ?_
     refine pP 8 28 ?_
     refine pP 9 29 ?_
     refine pP 10 30 ?_
     refine pT 11 31 ?_
     refine pO 12 32 (fun K hK => ?_)
     refine gO Tryz.func25 #[.int .u8 10, .int .u8 0, .int .u8 0, .int .u8 3] ?_
     with_reducible refine (addr_Four.calls k 10 0 0 3 t206 t207 t208 _ A8.out).mono ?_
     rintro e w41 ⟨rfl, hb⟩
     refine ⟨_, rfl, ?_⟩
     replace BK193 := kB BK193.out hb
     replace BK198 := kB BK198.out hb
     replace BK204 := kB BK204.out hb
     replace HB := bS HB.out hb
     (try clear hb)
     refine hK.out _ _ ⟨kZ4 BK193.out, kZ3 BK198.out⟩ (fun hHeld => ?_)
     clear hK K
     refine pN ?_
     refine pP 13 33 ?_
     refine pP 14 34 ?_
     refine pP 15 35 ?_
     refine pU 16 36 ?_
     refine pU 17 37 ?_
     refine pP 18 38 ?_
     refine pP 19 0 ?_
     refine pD ?_
     try go_wp2
     go_ret
     exact ⟨tE, tB HB.out⟩
   ·replace c7 := Bool.eq_false_iff.mpr c7
    subst c7
    rw [if_neg (show ¬ (false = true) by decide)] at H
    obtain rfl := Option.some.inj H
    go_enter Tryz.func4, Tryz.ntmps4
    try go_wp2_with (first | ((with_reducible refine gC 5 rfl ?_); refine gL (some 8) Tryz.func5 #[.string (⟨#[49, 48, 46, 48, 46, 48, 46, 48, 47, 51, 48]⟩ : ByteArray)] ?_; (with_reducible refine (ranges_Read.calls k (⟨#[49, 48, 46, 48, 46, 48, 46, 48, 47, 51, 48]⟩ : ByteArray) t188 t189 t190 t191 t192 _ ⟨hG_.out.below (tG HB.out)⟩ A1.out).mono ?_); rintro e w42 ⟨rfl, hb⟩; refine ⟨_, rfl, ?_⟩; replace HB := bS HB.out hb; (try clear hb)) | ((with_reducible refine gD 1 rfl ?_); refine bX 1 #[.bool false, .int .u64 0, .int .u64 0, .int .i64 0] 26 ?_; intro gb193 hg w43 hbox hb; have BK193 := aM hbox; have GW193 := gS hg HB.out; have GE193 := GW193; replace HB := bS HB.out hb; clear hb hbox hg; obtain ⟨hcz44_0, hcz44_1, hcz44_2, hcz44_3, hfz44_0, hfz44_1, hfz44_2, hfz44_3⟩ := kY4 BK193.out) | ((with_reducible refine gC 9 rfl ?_); refine gL (some 13) Tryz.func9 #[.agg #[.bool t188, .int .u64 t189, .int .u64 t190, .int .i64 t191], .int .i64 3] ?_; (with_reducible refine (ranges_At.calls t188 t189 t190 t191 3 t194 t195 t196 false _ A2.out).mono ?_); rintro e w45 ⟨rfl, hb⟩; refine ⟨_, rfl, ?_⟩; replace BK193 := kP (o := .cells #[.bool t188, .int .u64 t189, .int .u64 t190, .int .i64 t191] 26 (0, 0)) BK193.out hb; replace HB := bS HB.out hb; (try clear hb)) | ((with_reducible refine gD 3 rfl ?_); refine bX 3 #[.bool false, .int .u64 0, .int .u64 0] 24 ?_; intro gb198 hg w46 hbox hb; have BK198 := aM hbox; have GW198 := gS hg HB.out; have GE198 := GW198; have NB193_198 := nB hg BK193.out; have NB198_193 := nS (nB hg BK193.out); replace BK193 := kB BK193.out hb; replace HB := bS HB.out hb; clear hb hbox hg; have hnb47 := NB198_193.out; have hnc47 := NB193_198.out; obtain ⟨hcz48_0, hcz48_1, hcz48_2, hfz48_0, hfz48_1, hfz48_2⟩ := kY3 BK198.out) | ((with_reducible refine gC 5 rfl ?_); refine gL (some 17) Tryz.func5 #[.string (⟨#[49, 48, 46, 48, 46, 48, 46, 49, 47, 51, 48]⟩ : ByteArray)] ?_; (with_reducible refine (ranges_Read.calls k (⟨#[49, 48, 46, 48, 46, 48, 46, 49, 47, 51, 48]⟩ : ByteArray) t199 t200 t201 t202 t203 _ ⟨hG_.out.below (tG HB.out)⟩ A3.out).mono ?_); rintro e w49 ⟨rfl, hb⟩; refine ⟨_, rfl, ?_⟩; replace BK193 := kP (o := .cells #[.bool t188, .int .u64 t189, .int .u64 t190, .int .i64 t191] 26 (0, 0)) BK193.out hb; replace BK198 := kP (o := .cells #[.bool t194, .int .u64 t195, .int .u64 t196] 24 (0, 0)) BK198.out hb; replace HB := bS HB.out hb; (try clear hb)) | ((with_reducible refine gD 5 rfl ?_); refine bX 5 #[.bool false, .int .u64 0, .int .u64 0, .int .i64 0] 26 ?_; intro gb204 hg w50 hbox hb; have BK204 := aM hbox; have GW204 := gS hg HB.out; have GE204 := GW204; have NB193_204 := nB hg BK193.out; have NB204_193 := nS (nB hg BK193.out); have NB198_204 := nB hg BK198.out; have NB204_198 := nS (nB hg BK198.out); replace BK193 := kB BK193.out hb; replace BK198 := kB BK198.out hb; replace HB := bS HB.out hb; clear hb hbox hg; have hnb51 := NB204_193.out; have hnc51 := NB193_204.out; have hnb52 := NB204_198.out; have hnc52 := NB198_204.out; obtain ⟨hcz53_0, hcz53_1, hcz53_2, hcz53_3, hfz53_0, hfz53_1, hfz53_2, hfz53_3⟩ := kY4 BK204.out))
    have n0_ : Aside0 (((((w50.setCell ⟨gb204, 0, none⟩ (.bool t199)).setCell ⟨gb204, 1, none⟩ (.int .u64 t200)).setCell ⟨gb204, 2, none⟩ (.int .u64 t201)).setCell ⟨gb204, 3, none⟩ (.int .i64 t202)).heap[gb193]? = some (.cells #[.bool t188, .int .u64 t189, .int .u64 t190, .int .i64 t191] 26 (0, 0))) := ⟨tP BK193.out⟩
    have n1_ : Aside0 (((((w50.setCell ⟨gb204, 0, none⟩ (.bool t199)).setCell ⟨gb204, 1, none⟩ (.int .u64 t200)).setCell ⟨gb204, 2, none⟩ (.int .u64 t201)).setCell ⟨gb204, 3, none⟩ (.int .i64 t202)).heap[gb198]? = some (.cells #[.bool t194, .int .u64 t195, .int .u64 t196] 24 (0, 0))) := ⟨tP BK198.out⟩
    have n2_ : Aside0 (((((w50.setCell ⟨gb204, 0, none⟩ (.bool t199)).setCell ⟨gb204, 1, none⟩ (.int .u64 t200)).setCell ⟨gb204, 2, none⟩ (.int .u64 t201)).setCell ⟨gb204, 3, none⟩ (.int .i64 t202)).heap[gb204]? = some (.cells #[.bool t199, .int .u64 t200, .int .u64 t201, .int .i64 t202] 26 (0, 0))) := ⟨tP BK204.out⟩
    have n3_ : Aside0 (Below w.heap.size w ((((w50.setCell ⟨gb204, 0, none⟩ (.bool t199)).setCell ⟨gb204, 1, none⟩ (.int .u64 t200)).setCell ⟨gb204, 2, none⟩ (.int .u64 t201)).setCell ⟨gb204, 3, none⟩ (.int .i64 t202))) := ⟨tB HB.out⟩
    (try clear BK193)
    (try clear BK198)
    (try clear BK204)
    (try clear HB)
    (try (repeat rw [setCell_drewN_]))
    generalize ((((w50.setCell ⟨gb204, 0, none⟩ (.bool t199)).setCell ⟨gb204, 1, none⟩ (.int .u64 t200)).setCell ⟨gb204, 2, none⟩ (.int .u64 t201)).setCell ⟨gb204, 3, none⟩ (.int .i64 t202)) = w54 at n0_ n1_ n2_ n3_ ⊢
    have BK193 := n0_
    have BK198 := n1_
    have BK204 := n2_
    have HB := n3_
    clear n0_ n1_ n2_ n3_
    replace BK193 := aM (kD BK193.out)
    replace BK198 := aM (kD BK198.out)
    replace BK204 := aM (kD BK204.out)
    replace HB := aM (bD HB.out)
    refine pS 20 (S := fun w' => cZ4 w' gb193 (.bool t188) (.int .u64 t189) (.int .u64 t190) (.int .i64 t191)) (ds := []) (kZ4 BK193.out) (fun hHeld => ?_); refine with_tabW nameplatelaw05_lives.tab4 nameplatelaw05_lives.bits4 (fun HT_ HW_ => ?_)
    generalize w54.drew = w55 at BK193 BK198 BK204 HB hHeld ⊢
    refine pP 0 20 ?_
    refine pP 1 21 ?_
    refine pP 2 22 ?_
    refine pT 3 23 ?_
    refine pO 4 24 (fun K hK => ?_)
    refine gO Tryz.func13 #[.agg #[.bool t188, .int .u64 t189, .int .u64 t190, .int .i64 t191]] ?_
    with_reducible refine (ranges_Size.calls t188 t189 t190 t191 t205 _ A5.out).mono ?_
    rintro e w56 ⟨rfl, hb⟩
    refine ⟨_, rfl, ?_⟩
    replace BK193 := kB BK193.out hb
    replace BK198 := kB BK198.out hb
    replace BK204 := kB BK204.out hb
    replace HB := bS HB.out hb
    (try clear hb)
    refine hK.out _ _ (kZ4 BK193.out) (fun hHeld => ?_)
    clear hK K
    refine pN ?_
    refine pP 5 25 ?_
    refine pP 6 26 ?_
    refine pP 7 27 ?_
    refine pP 8 28 ?_
    refine pP 9 29 ?_
    refine pP 10 30 ?_
    refine pU 11 31 ?_
    refine pU 12 32 ?_
    refine pU 13 33 ?_
    refine pP 14 34 ?_
    refine pP 15 35 ?_
    refine pU 16 36 ?_
    refine pU 17 37 ?_
    refine pP 18 38 ?_
    refine pP 19 0 ?_
    refine pD ?_
    try go_wp2
    go_ret
    exact ⟨tE, tB HB.out⟩
  ·rw [if_neg c6] at H
   have c6b0 : (t205 == 4) = false := beq_eq_false_iff_ne.mpr c6
   have c6b1 : (t205 != 4) = true := bne_iff_ne.mpr c6
   obtain rfl := Option.some.inj H
   go_enter Tryz.func4, Tryz.ntmps4
   try go_wp2_with (first | ((with_reducible refine gC 5 rfl ?_); refine gL (some 8) Tryz.func5 #[.string (⟨#[49, 48, 46, 48, 46, 48, 46, 48, 47, 51, 48]⟩ : ByteArray)] ?_; (with_reducible refine (ranges_Read.calls k (⟨#[49, 48, 46, 48, 46, 48, 46, 48, 47, 51, 48]⟩ : ByteArray) t188 t189 t190 t191 t192 _ ⟨hG_.out.below (tG HB.out)⟩ A1.out).mono ?_); rintro e w57 ⟨rfl, hb⟩; refine ⟨_, rfl, ?_⟩; replace HB := bS HB.out hb; (try clear hb)) | ((with_reducible refine gD 1 rfl ?_); refine bX 1 #[.bool false, .int .u64 0, .int .u64 0, .int .i64 0] 26 ?_; intro gb193 hg w58 hbox hb; have BK193 := aM hbox; have GW193 := gS hg HB.out; have GE193 := GW193; replace HB := bS HB.out hb; clear hb hbox hg; obtain ⟨hcz59_0, hcz59_1, hcz59_2, hcz59_3, hfz59_0, hfz59_1, hfz59_2, hfz59_3⟩ := kY4 BK193.out) | ((with_reducible refine gC 9 rfl ?_); refine gL (some 13) Tryz.func9 #[.agg #[.bool t188, .int .u64 t189, .int .u64 t190, .int .i64 t191], .int .i64 3] ?_; (with_reducible refine (ranges_At.calls t188 t189 t190 t191 3 t194 t195 t196 t197 _ A2.out).mono ?_); rintro e w60 ⟨rfl, hb⟩; refine ⟨_, rfl, ?_⟩; replace BK193 := kP (o := .cells #[.bool t188, .int .u64 t189, .int .u64 t190, .int .i64 t191] 26 (0, 0)) BK193.out hb; replace HB := bS HB.out hb; (try clear hb)) | ((with_reducible refine gD 3 rfl ?_); refine bX 3 #[.bool false, .int .u64 0, .int .u64 0] 24 ?_; intro gb198 hg w61 hbox hb; have BK198 := aM hbox; have GW198 := gS hg HB.out; have GE198 := GW198; have NB193_198 := nB hg BK193.out; have NB198_193 := nS (nB hg BK193.out); replace BK193 := kB BK193.out hb; replace HB := bS HB.out hb; clear hb hbox hg; have hnb62 := NB198_193.out; have hnc62 := NB193_198.out; obtain ⟨hcz63_0, hcz63_1, hcz63_2, hfz63_0, hfz63_1, hfz63_2⟩ := kY3 BK198.out) | ((with_reducible refine gC 5 rfl ?_); refine gL (some 17) Tryz.func5 #[.string (⟨#[49, 48, 46, 48, 46, 48, 46, 49, 47, 51, 48]⟩ : ByteArray)] ?_; (with_reducible refine (ranges_Read.calls k (⟨#[49, 48, 46, 48, 46, 48, 46, 49, 47, 51, 48]⟩ : ByteArray) t199 t200 t201 t202 t203 _ ⟨hG_.out.below (tG HB.out)⟩ A3.out).mono ?_); rintro e w64 ⟨rfl, hb⟩; refine ⟨_, rfl, ?_⟩; replace BK193 := kP (o := .cells #[.bool t188, .int .u64 t189, .int .u64 t190, .int .i64 t191] 26 (0, 0)) BK193.out hb; replace BK198 := kP (o := .cells #[.bool t194, .int .u64 t195, .int .u64 t196] 24 (0, 0)) BK198.out hb; replace HB := bS HB.out hb; (try clear hb)) | ((with_reducible refine gD 5 rfl ?_); refine bX 5 #[.bool false, .int .u64 0, .int .u64 0, .int .i64 0] 26 ?_; intro gb204 hg w65 hbox hb; have BK204 := aM hbox; have GW204 := gS hg HB.out; have GE204 := GW204; have NB193_204 := nB hg BK193.out; have NB204_193 := nS (nB hg BK193.out); have NB198_204 := nB hg BK198.out; have NB204_198 := nS (nB hg BK198.out); replace BK193 := kB BK193.out hb; replace BK198 := kB BK198.out hb; replace HB := bS HB.out hb; clear hb hbox hg; have hnb66 := NB204_193.out; have hnc66 := NB193_204.out; have hnb67 := NB204_198.out; have hnc67 := NB198_204.out; obtain ⟨hcz68_0, hcz68_1, hcz68_2, hcz68_3, hfz68_0, hfz68_1, hfz68_2, hfz68_3⟩ := kY4 BK204.out))
   have n0_ : Aside0 (((((w65.setCell ⟨gb204, 0, none⟩ (.bool t199)).setCell ⟨gb204, 1, none⟩ (.int .u64 t200)).setCell ⟨gb204, 2, none⟩ (.int .u64 t201)).setCell ⟨gb204, 3, none⟩ (.int .i64 t202)).heap[gb193]? = some (.cells #[.bool t188, .int .u64 t189, .int .u64 t190, .int .i64 t191] 26 (0, 0))) := ⟨tP BK193.out⟩
   have n1_ : Aside0 (((((w65.setCell ⟨gb204, 0, none⟩ (.bool t199)).setCell ⟨gb204, 1, none⟩ (.int .u64 t200)).setCell ⟨gb204, 2, none⟩ (.int .u64 t201)).setCell ⟨gb204, 3, none⟩ (.int .i64 t202)).heap[gb198]? = some (.cells #[.bool t194, .int .u64 t195, .int .u64 t196] 24 (0, 0))) := ⟨tP BK198.out⟩
   have n2_ : Aside0 (((((w65.setCell ⟨gb204, 0, none⟩ (.bool t199)).setCell ⟨gb204, 1, none⟩ (.int .u64 t200)).setCell ⟨gb204, 2, none⟩ (.int .u64 t201)).setCell ⟨gb204, 3, none⟩ (.int .i64 t202)).heap[gb204]? = some (.cells #[.bool t199, .int .u64 t200, .int .u64 t201, .int .i64 t202] 26 (0, 0))) := ⟨tP BK204.out⟩
   have n3_ : Aside0 (Below w.heap.size w ((((w65.setCell ⟨gb204, 0, none⟩ (.bool t199)).setCell ⟨gb204, 1, none⟩ (.int .u64 t200)).setCell ⟨gb204, 2, none⟩ (.int .u64 t201)).setCell ⟨gb204, 3, none⟩ (.int .i64 t202))) := ⟨tB HB.out⟩
   (try clear BK193)
   (try clear BK198)
   (try clear BK204)
   (try clear HB)
   (try (repeat rw [setCell_drewN_]))
   generalize ((((w65.setCell ⟨gb204, 0, none⟩ (.bool t199)).setCell ⟨gb204, 1, none⟩ (.int .u64 t200)).setCell ⟨gb204, 2, none⟩ (.int .u64 t201)).setCell ⟨gb204, 3, none⟩ (.int .i64 t202)) = w69 at n0_ n1_ n2_ n3_ ⊢
   have BK193 := n0_
   have BK198 := n1_
   have BK204 := n2_
   have HB := n3_
   clear n0_ n1_ n2_ n3_
   replace BK193 := aM (kD BK193.out)
   replace BK198 := aM (kD BK198.out)
   replace BK204 := aM (kD BK204.out)
   replace HB := aM (bD HB.out)
   refine pS 20 (S := fun w' => cZ4 w' gb193 (.bool t188) (.int .u64 t189) (.int .u64 t190) (.int .i64 t191)) (ds := []) (kZ4 BK193.out) (fun hHeld => ?_); refine with_tabW nameplatelaw05_lives.tab4 nameplatelaw05_lives.bits4 (fun HT_ HW_ => ?_)
   generalize w69.drew = w70 at BK193 BK198 BK204 HB hHeld ⊢
   refine pP 0 20 ?_
   refine pP 1 21 ?_
   refine pP 2 22 ?_
   refine pT 3 23 ?_
   refine pO 4 24 (fun K hK => ?_)
   refine gO Tryz.func13 #[.agg #[.bool t188, .int .u64 t189, .int .u64 t190, .int .i64 t191]] ?_
   with_reducible refine (ranges_Size.calls t188 t189 t190 t191 t205 _ A5.out).mono ?_
   rintro e w71 ⟨rfl, hb⟩
   refine ⟨_, rfl, ?_⟩
   replace BK193 := kB BK193.out hb
   replace BK198 := kB BK198.out hb
   replace BK204 := kB BK204.out hb
   replace HB := bS HB.out hb
   (try clear hb)
   refine hK.out _ _ (kZ4 BK193.out) (fun hHeld => ?_)
   clear hK K
   refine pN ?_
   refine pP 5 25 ?_
   refine pP 6 26 ?_
   refine pP 7 27 ?_
   refine pU 8 28 ?_
   refine pP 9 29 ?_
   refine pP 10 30 ?_
   refine pU 11 31 ?_
   refine pU 12 32 ?_
   refine pU 13 33 ?_
   refine pP 14 34 ?_
   refine pP 15 35 ?_
   refine pU 16 36 ?_
   refine pU 17 37 ?_
   refine pP 18 38 ?_
   refine pP 19 0 ?_
   refine pD ?_
   try go_wp2
   go_ret
   exact ⟨tE, tB HB.out⟩
 ·rw [if_neg c4] at H
  have c4b0 : (t192 == 0) = false := beq_eq_false_iff_ne.mpr c4
  have c4b1 : (t192 != 0) = true := bne_iff_ne.mpr c4
  obtain rfl := Option.some.inj H
  go_enter Tryz.func4, Tryz.ntmps4
  try go_wp2_with (first | ((with_reducible refine gC 5 rfl ?_); refine gL (some 8) Tryz.func5 #[.string (⟨#[49, 48, 46, 48, 46, 48, 46, 48, 47, 51, 48]⟩ : ByteArray)] ?_; (with_reducible refine (ranges_Read.calls k (⟨#[49, 48, 46, 48, 46, 48, 46, 48, 47, 51, 48]⟩ : ByteArray) t188 t189 t190 t191 t192 _ ⟨hG_.out.below (tG HB.out)⟩ A1.out).mono ?_); rintro e w72 ⟨rfl, hb⟩; refine ⟨_, rfl, ?_⟩; replace HB := bS HB.out hb; (try clear hb)) | ((with_reducible refine gD 1 rfl ?_); refine bX 1 #[.bool false, .int .u64 0, .int .u64 0, .int .i64 0] 26 ?_; intro gb193 hg w73 hbox hb; have BK193 := aM hbox; have GW193 := gS hg HB.out; have GE193 := GW193; replace HB := bS HB.out hb; clear hb hbox hg; obtain ⟨hcz74_0, hcz74_1, hcz74_2, hcz74_3, hfz74_0, hfz74_1, hfz74_2, hfz74_3⟩ := kY4 BK193.out) | ((with_reducible refine gC 9 rfl ?_); refine gL (some 13) Tryz.func9 #[.agg #[.bool t188, .int .u64 t189, .int .u64 t190, .int .i64 t191], .int .i64 3] ?_; (with_reducible refine (ranges_At.calls t188 t189 t190 t191 3 t194 t195 t196 t197 _ A2.out).mono ?_); rintro e w75 ⟨rfl, hb⟩; refine ⟨_, rfl, ?_⟩; replace BK193 := kP (o := .cells #[.bool t188, .int .u64 t189, .int .u64 t190, .int .i64 t191] 26 (0, 0)) BK193.out hb; replace HB := bS HB.out hb; (try clear hb)) | ((with_reducible refine gD 3 rfl ?_); refine bX 3 #[.bool false, .int .u64 0, .int .u64 0] 24 ?_; intro gb198 hg w76 hbox hb; have BK198 := aM hbox; have GW198 := gS hg HB.out; have GE198 := GW198; have NB193_198 := nB hg BK193.out; have NB198_193 := nS (nB hg BK193.out); replace BK193 := kB BK193.out hb; replace HB := bS HB.out hb; clear hb hbox hg; have hnb77 := NB198_193.out; have hnc77 := NB193_198.out; obtain ⟨hcz78_0, hcz78_1, hcz78_2, hfz78_0, hfz78_1, hfz78_2⟩ := kY3 BK198.out) | ((with_reducible refine gC 5 rfl ?_); refine gL (some 17) Tryz.func5 #[.string (⟨#[49, 48, 46, 48, 46, 48, 46, 49, 47, 51, 48]⟩ : ByteArray)] ?_; (with_reducible refine (ranges_Read.calls k (⟨#[49, 48, 46, 48, 46, 48, 46, 49, 47, 51, 48]⟩ : ByteArray) t199 t200 t201 t202 t203 _ ⟨hG_.out.below (tG HB.out)⟩ A3.out).mono ?_); rintro e w79 ⟨rfl, hb⟩; refine ⟨_, rfl, ?_⟩; replace BK193 := kP (o := .cells #[.bool t188, .int .u64 t189, .int .u64 t190, .int .i64 t191] 26 (0, 0)) BK193.out hb; replace BK198 := kP (o := .cells #[.bool t194, .int .u64 t195, .int .u64 t196] 24 (0, 0)) BK198.out hb; replace HB := bS HB.out hb; (try clear hb)) | ((with_reducible refine gD 5 rfl ?_); refine bX 5 #[.bool false, .int .u64 0, .int .u64 0, .int .i64 0] 26 ?_; intro gb204 hg w80 hbox hb; have BK204 := aM hbox; have GW204 := gS hg HB.out; have GE204 := GW204; have NB193_204 := nB hg BK193.out; have NB204_193 := nS (nB hg BK193.out); have NB198_204 := nB hg BK198.out; have NB204_198 := nS (nB hg BK198.out); replace BK193 := kB BK193.out hb; replace BK198 := kB BK198.out hb; replace HB := bS HB.out hb; clear hb hbox hg; have hnb81 := NB204_193.out; have hnc81 := NB193_204.out; have hnb82 := NB204_198.out; have hnc82 := NB198_204.out; obtain ⟨hcz83_0, hcz83_1, hcz83_2, hcz83_3, hfz83_0, hfz83_1, hfz83_2, hfz83_3⟩ := kY4 BK204.out))
  have n0_ : Aside0 (((((w80.setCell ⟨gb204, 0, none⟩ (.bool t199)).setCell ⟨gb204, 1, none⟩ (.int .u64 t200)).setCell ⟨gb204, 2, none⟩ (.int .u64 t201)).setCell ⟨gb204, 3, none⟩ (.int .i64 t202)).heap[gb193]? = some (.cells #[.bool t188, .int .u64 t189, .int .u64 t190, .int .i64 t191] 26 (0, 0))) := ⟨tP BK193.out⟩
  have n1_ : Aside0 (((((w80.setCell ⟨gb204, 0, none⟩ (.bool t199)).setCell ⟨gb204, 1, none⟩ (.int .u64 t200)).setCell ⟨gb204, 2, none⟩ (.int .u64 t201)).setCell ⟨gb204, 3, none⟩ (.int .i64 t202)).heap[gb198]? = some (.cells #[.bool t194, .int .u64 t195, .int .u64 t196] 24 (0, 0))) := ⟨tP BK198.out⟩
  have n2_ : Aside0 (((((w80.setCell ⟨gb204, 0, none⟩ (.bool t199)).setCell ⟨gb204, 1, none⟩ (.int .u64 t200)).setCell ⟨gb204, 2, none⟩ (.int .u64 t201)).setCell ⟨gb204, 3, none⟩ (.int .i64 t202)).heap[gb204]? = some (.cells #[.bool t199, .int .u64 t200, .int .u64 t201, .int .i64 t202] 26 (0, 0))) := ⟨tP BK204.out⟩
  have n3_ : Aside0 (Below w.heap.size w ((((w80.setCell ⟨gb204, 0, none⟩ (.bool t199)).setCell ⟨gb204, 1, none⟩ (.int .u64 t200)).setCell ⟨gb204, 2, none⟩ (.int .u64 t201)).setCell ⟨gb204, 3, none⟩ (.int .i64 t202))) := ⟨tB HB.out⟩
  (try clear BK193)
  (try clear BK198)
  (try clear BK204)
  (try clear HB)
  (try (repeat rw [setCell_drewN_]))
  generalize ((((w80.setCell ⟨gb204, 0, none⟩ (.bool t199)).setCell ⟨gb204, 1, none⟩ (.int .u64 t200)).setCell ⟨gb204, 2, none⟩ (.int .u64 t201)).setCell ⟨gb204, 3, none⟩ (.int .i64 t202)) = w84 at n0_ n1_ n2_ n3_ ⊢
  have BK193 := n0_
  have BK198 := n1_
  have BK204 := n2_
  have HB := n3_
  clear n0_ n1_ n2_ n3_
  replace BK193 := aM (kD BK193.out)
  replace BK198 := aM (kD BK198.out)
  replace BK204 := aM (kD BK204.out)
  replace HB := aM (bD HB.out)
  refine pS 20 (S := fun w' => True) (ds := []) trivial (fun hHeld => ?_); refine with_tabW nameplatelaw05_lives.tab4 nameplatelaw05_lives.bits4 (fun HT_ HW_ => ?_)
  generalize w84.drew = w85 at BK193 BK198 BK204 HB hHeld ⊢
  refine pP 0 20 ?_
  refine pP 1 21 ?_
  refine pP 2 22 ?_
  refine pU 3 23 ?_
  refine pU 4 24 ?_
  refine pU 5 25 ?_
  refine pP 6 26 ?_
  refine pP 7 27 ?_
  refine pU 8 28 ?_
  refine pP 9 29 ?_
  refine pP 10 30 ?_
  refine pU 11 31 ?_
  refine pU 12 32 ?_
  refine pU 13 33 ?_
  refine pP 14 34 ?_
  refine pP 15 35 ?_
  refine pU 16 36 ?_
  refine pU 17 37 ?_
  refine pP 18 38 ?_
  refine pP 19 0 ?_
  refine pD ?_
  try go_wp2
  go_ret
  exact ⟨tE, tB HB.out⟩

end Go.Proofs.YtbalmnkbodcigaaGreatDoor.ORc
namespace Go.Proofs.YtbalmnkbodcigaaGreatDoor.ORc
open Go.RowKit Go.Proofs.YtbalmnkbodcigaaGreatDoorW.PrintWords Go.Proofs.YtbalmnkbodcigaaGreatDoorW.PrintLast Go.Proofs.YtbalmnkbodcigaaGreatDoorW.PrintMore
attribute [local go_sem] max2_int min2_int max_two min_two max_three min_three max_four min_four   -- for this text's walks alone
set_option linter.unusedVariables false
set_option linter.unusedSimpArgs false

/-! ### nameplateref05_wide: function 35 -/
def nameplateref05_wide.f (a0_0 : Bool) (a0_1 : Int) (a0_2 : Int) : Option (Int) := if a0_0 = true then (some 128) else (some 32)
set_option maxHeartbeats 8000000 in
set_option maxRecDepth 100000 in
theorem nameplateref05_wide.calls (a0_0 : Bool) (a0_1 : Int) (a0_2 : Int) (r : Int) (w : World) (h : nameplateref05_wide.f a0_0 a0_1 a0_2 = some r) :
  Calls Tryz.prog 35 #[.agg #[.bool a0_0, .int .u64 a0_1, .int .u64 a0_2]] w fun e w' => e = .returned (.int .i64 r) ∧ Below w.heap.size w w' := by
 have hu24 := Tryz.underlying24
 have HB := aM (Below.refl w.heap.size w)
 have H : (if a0_0 = true then (some 128) else (some 32)) = some r := h
 clear h
 by_cases c2 : a0_0 = true
 ·subst c2
  rw [if_pos rfl] at H
  obtain rfl := Option.some.inj H
  go_enter Tryz.func35, Tryz.ntmps35
  go_wp2_with (first | ((with_reducible refine gD 1 rfl ?_); refine bX 1 #[.bool true, .int .u64 a0_1, .int .u64 a0_2] 24 ?_; intro gb209 hg w3 hbox hb; have BK209 := aM hbox; have GW209 := gS hg HB.out; have GE209 := GW209; replace HB := bS HB.out hb; clear hb hbox hg; obtain ⟨hcz4_0, hcz4_1, hcz4_2, hfz4_0, hfz4_1, hfz4_2⟩ := kY3 BK209.out))
  go_ret
  exact ⟨tE, tB HB.out⟩
 ·replace c2 := Bool.eq_false_iff.mpr c2
  subst c2
  rw [if_neg (show ¬ (false = true) by decide)] at H
  obtain rfl := Option.some.inj H
  go_enter Tryz.func35, Tryz.ntmps35
  go_wp2_with (first | ((with_reducible refine gD 1 rfl ?_); refine bX 1 #[.bool false, .int .u64 a0_1, .int .u64 a0_2] 24 ?_; intro gb209 hg w5 hbox hb; have BK209 := aM hbox; have GW209 := gS hg HB.out; have GE209 := GW209; replace HB := bS HB.out hb; clear hb hbox hg; obtain ⟨hcz6_0, hcz6_1, hcz6_2, hfz6_0, hfz6_1, hfz6_2⟩ := kY3 BK209.out))
  go_ret
  exact ⟨tE, tB HB.out⟩

/-! ### nameplateref04_Check: function 38 -/
def nameplateref04_Check.f (a0_0 : Bool) (a0_1 : Int) (a0_2 : Int) : Option (Int) := if a0_0 = true then (some 0) else (if a0_1 = 0 then (if a0_2 ≥ 4294967296 then (some 2) else (some 0)) else (some 2))
set_option maxHeartbeats 8000000 in
set_option maxRecDepth 100000 in
theorem nameplateref04_Check.calls (a0_0 : Bool) (a0_1 : Int) (a0_2 : Int) (r : Int) (w : World) (h : nameplateref04_Check.f a0_0 a0_1 a0_2 = some r) :
  Calls Tryz.prog 38 #[.agg #[.bool a0_0, .int .u64 a0_1, .int .u64 a0_2]] w fun e w' => e = .returned (.int .i64 r) ∧ Below w.heap.size w w' := by
 have hu24 := Tryz.underlying24
 have HB := aM (Below.refl w.heap.size w)
 have H : (if a0_0 = true then (some 0) else (if a0_1 = 0 then (if a0_2 ≥ 4294967296 then (some 2) else (some 0)) else (some 2))) = some r := h
 clear h
 by_cases c2 : a0_0 = true
 ·subst c2
  rw [if_pos rfl] at H
  obtain rfl := Option.some.inj H
  go_enter Tryz.func38, Tryz.ntmps38
  go_wp2_with (first | ((with_reducible refine gD 1 rfl ?_); refine bX 1 #[.bool true, .int .u64 a0_1, .int .u64 a0_2] 24 ?_; intro gb210 hg w3 hbox hb; have BK210 := aM hbox; have GW210 := gS hg HB.out; have GE210 := GW210; replace HB := bS HB.out hb; clear hb hbox hg; obtain ⟨hcz4_0, hcz4_1, hcz4_2, hfz4_0, hfz4_1, hfz4_2⟩ := kY3 BK210.out))
  go_ret
  exact ⟨tE, tB HB.out⟩
 ·replace c2 := Bool.eq_false_iff.mpr c2
  subst c2
  rw [if_neg (show ¬ (false = true) by decide)] at H
  by_cases c5 : a0_1 = 0
  ·rw [if_pos c5] at H
   have c5b0 : (a0_1 == 0) = true := beq_iff_eq.mpr c5
   have c5b1 : (a0_1 != 0) = false := bne_eq_false_iff_eq.mpr c5
   clear c5
   by_cases c6 : a0_2 ≥ 4294967296
   ·rw [if_pos c6] at H
    have c6b0 : decide (4294967296 ≤ a0_2) = true := decide_eq_true c6
    clear c6
    obtain rfl := Option.some.inj H
    go_enter Tryz.func38, Tryz.ntmps38
    go_wp2_with (first | ((with_reducible refine gD 1 rfl ?_); refine bX 1 #[.bool false, .int .u64 a0_1, .int .u64 a0_2] 24 ?_; intro gb210 hg w7 hbox hb; have BK210 := aM hbox; have GW210 := gS hg HB.out; have GE210 := GW210; replace HB := bS HB.out hb; clear hb hbox hg; obtain ⟨hcz8_0, hcz8_1, hcz8_2, hfz8_0, hfz8_1, hfz8_2⟩ := kY3 BK210.out))
    go_ret
    exact ⟨tE, tB HB.out⟩
   ·rw [if_neg c6] at H
    have c6b0 : decide (4294967296 ≤ a0_2) = false := decide_eq_false c6
    clear c6
    obtain rfl := Option.some.inj H
    go_enter Tryz.func38, Tryz.ntmps38
    go_wp2_with (first | ((with_reducible refine gD 1 rfl ?_); refine bX 1 #[.bool false, .int .u64 a0_1, .int .u64 a0_2] 24 ?_; intro gb210 hg w9 hbox hb; have BK210 := aM hbox; have GW210 := gS hg HB.out; have GE210 := GW210; replace HB := bS HB.out hb; clear hb hbox hg; obtain ⟨hcz10_0, hcz10_1, hcz10_2, hfz10_0, hfz10_1, hfz10_2⟩ := kY3 BK210.out))
    go_ret
    exact ⟨tE, tB HB.out⟩
  ·rw [if_neg c5] at H
   have c5b0 : (a0_1 == 0) = false := beq_eq_false_iff_ne.mpr c5
   have c5b1 : (a0_1 != 0) = true := bne_iff_ne.mpr c5
   obtain rfl := Option.some.inj H
   go_enter Tryz.func38, Tryz.ntmps38
   go_wp2_with (first | ((with_reducible refine gD 1 rfl ?_); refine bX 1 #[.bool false, .int .u64 a0_1, .int .u64 a0_2] 24 ?_; intro gb210 hg w11 hbox hb; have BK210 := aM hbox; have GW210 := gS hg HB.out; have GE210 := GW210; replace HB := bS HB.out hb; clear hb hbox hg; obtain ⟨hcz12_0, hcz12_1, hcz12_2, hfz12_0, hfz12_1, hfz12_2⟩ := kY3 BK210.out))
   go_ret
   exact ⟨tE, tB HB.out⟩

/-! ### nameplateref05_bit: function 39 -/
def nameplateref05_bit.f (a0_0 : Bool) (a0_1 : Int) (a0_2 : Int) (a1 : Int) : Option (Int) := if a0_0 = true then (if a1 < 64 then (if 0 ≤ (IntKind.u64.wrap (wrap64 (63 - a1))) then (some (Go.bits .and .u64 (shr .u64 a0_1 (IntKind.u64.wrap (wrap64 (63 - a1)))) 1)) else (none)) else (if 0 ≤ (IntKind.u64.wrap (wrap64 (127 - a1))) then (some (Go.bits .and .u64 (shr .u64 a0_2 (IntKind.u64.wrap (wrap64 (127 - a1)))) 1)) else (none))) else (if 0 ≤ (IntKind.u64.wrap (wrap64 (31 - a1))) then (some (Go.bits .and .u64 (shr .u64 a0_2 (IntKind.u64.wrap (wrap64 (31 - a1)))) 1)) else (none))
set_option maxHeartbeats 8000000 in
set_option maxRecDepth 100000 in
theorem nameplateref05_bit.calls (a0_0 : Bool) (a0_1 : Int) (a0_2 : Int) (a1 : Int) (r : Int) (w : World) (h : nameplateref05_bit.f a0_0 a0_1 a0_2 a1 = some r) :
  Calls Tryz.prog 39 #[.agg #[.bool a0_0, .int .u64 a0_1, .int .u64 a0_2], .int .i64 a1] w fun e w' => e = .returned (.int .u64 r) ∧ Below w.heap.size w w' := by
 have hu24 := Tryz.underlying24
 have HB := aM (Below.refl w.heap.size w)
 have H : (if a0_0 = true then (if a1 < 64 then (if 0 ≤ (IntKind.u64.wrap (wrap64 (63 - a1))) then (some (Go.bits .and .u64 (shr .u64 a0_1 (IntKind.u64.wrap (wrap64 (63 - a1)))) 1)) else (none)) else (if 0 ≤ (IntKind.u64.wrap (wrap64 (127 - a1))) then (some (Go.bits .and .u64 (shr .u64 a0_2 (IntKind.u64.wrap (wrap64 (127 - a1)))) 1)) else (none))) else (if 0 ≤ (IntKind.u64.wrap (wrap64 (31 - a1))) then (some (Go.bits .and .u64 (shr .u64 a0_2 (IntKind.u64.wrap (wrap64 (31 - a1)))) 1)) else (none))) = some r := h
 clear h
 by_cases c3 : a0_0 = true
 ·subst c3
  rw [if_pos rfl] at H
  by_cases c4 : a1 < 64
  ·rw [if_pos c4] at H
   have c4b0 : decide (a1 < 64) = true := decide_eq_true c4
   clear c4
   obtain ⟨ji5, hji5⟩ : ∃ j_ : Int, (IntKind.u64.wrap (wrap64 (63 - a1))) = j_ := ⟨_, rfl⟩
   replace H : (if 0 ≤ (ji5) then (some (Go.bits .and .u64 (shr .u64 a0_1 (ji5)) 1)) else (none)) = some r := by first | (rw [hji5] at H; exact H) | (simp only [hji5] at H ⊢; exact H)
   by_cases c6 : 0 ≤ (ji5)
   ·rw [if_pos c6] at H
    have c6b0 := eq_true c6
    have c6b1 : decide (0 ≤ (ji5)) = true := decide_eq_true c6
    clear c6
    obtain ⟨ji7, hji7⟩ : ∃ j_ : Int, (shr .u64 a0_1 (ji5)) = j_ := ⟨_, rfl⟩
    replace H : (some (Go.bits .and .u64 (ji7) 1)) = some r := by first | (rw [hji7] at H; exact H) | (simp only [hji7] at H ⊢; exact H)
    have hji7_ : (a0_1 / 2 ^ min (ji5).toNat 64) = ji7 := hji7
    have hji7z : (ji5) ≤ 64 → (a0_1 / 2 ^ (ji5).toNat) = ji7 := shr_small hji7
    obtain rfl := Option.some.inj H
    go_enter Tryz.func39, Tryz.ntmps39
    go_wp2_with (first | ((with_reducible refine gD 2 rfl ?_); refine bX 2 #[.bool true, .int .u64 a0_1, .int .u64 a0_2] 24 ?_; intro gb211 hg w8 hbox hb; have BK211 := aM hbox; have GW211 := gS hg HB.out; have GE211 := GW211; replace HB := bS HB.out hb; clear hb hbox hg; obtain ⟨hcz9_0, hcz9_1, hcz9_2, hfz9_0, hfz9_1, hfz9_2⟩ := kY3 BK211.out))
    go_ret
    exact ⟨by first | rfl | (simp [errW_none, errW_some] <;> rfl) | (simp only [← hji5, ← hji7]; first | rfl | (simp [errW_none, errW_some] <;> rfl)) | (simp [*, errW_none, errW_some] <;> rfl), tB HB.out⟩
   ·rw [if_neg c6] at H
    exact absurd H (by simp)
  ·rw [if_neg c4] at H
   have c4b0 : decide (a1 < 64) = false := decide_eq_false c4
   clear c4
   obtain ⟨ji10, hji10⟩ : ∃ j_ : Int, (IntKind.u64.wrap (wrap64 (127 - a1))) = j_ := ⟨_, rfl⟩
   replace H : (if 0 ≤ (ji10) then (some (Go.bits .and .u64 (shr .u64 a0_2 (ji10)) 1)) else (none)) = some r := by first | (rw [hji10] at H; exact H) | (simp only [hji10] at H ⊢; exact H)
   by_cases c11 : 0 ≤ (ji10)
   ·rw [if_pos c11] at H
    have c11b0 := eq_true c11
    have c11b1 : decide (0 ≤ (ji10)) = true := decide_eq_true c11
    clear c11
    obtain ⟨ji12, hji12⟩ : ∃ j_ : Int, (shr .u64 a0_2 (ji10)) = j_ := ⟨_, rfl⟩
    replace H : (some (Go.bits .and .u64 (ji12) 1)) = some r := by first | (rw [hji12] at H; exact H) | (simp only [hji12] at H ⊢; exact H)
    have hji12_ : (a0_2 / 2 ^ min (ji10).toNat 64) = ji12 := hji12
    have hji12z : (ji10) ≤ 64 → (a0_2 / 2 ^ (ji10).toNat) = ji12 := shr_small hji12
    obtain rfl := Option.some.inj H
    go_enter Tryz.func39, Tryz.ntmps39
    go_wp2_with (first | ((with_reducible refine gD 2 rfl ?_); refine bX 2 #[.bool true, .int .u64 a0_1, .int .u64 a0_2] 24 ?_; intro gb211 hg w13 hbox hb; have BK211 := aM hbox; have GW211 := gS hg HB.out; have GE211 := GW211; replace HB := bS HB.out hb; clear hb hbox hg; obtain ⟨hcz14_0, hcz14_1, hcz14_2, hfz14_0, hfz14_1, hfz14_2⟩ := kY3 BK211.out))
    go_ret
    exact ⟨by first | rfl | (simp [errW_none, errW_some] <;> rfl) | (simp only [← hji10, ← hji12]; first | rfl | (simp [errW_none, errW_some] <;> rfl)) | (simp [*, errW_none, errW_some] <;> rfl), tB HB.out⟩
   ·rw [if_neg c11] at H
    exact absurd H (by simp)
 ·replace c3 := Bool.eq_false_iff.mpr c3
  subst c3
  rw [if_neg (show ¬ (false = true) by decide)] at H
  obtain ⟨ji15, hji15⟩ : ∃ j_ : Int, (IntKind.u64.wrap (wrap64 (31 - a1))) = j_ := ⟨_, rfl⟩
  replace H : (if 0 ≤ (ji15) then (some (Go.bits .and .u64 (shr .u64 a0_2 (ji15)) 1)) else (none)) = some r := by first | (rw [hji15] at H; exact H) | (simp only [hji15] at H ⊢; exact H)
  by_cases c16 : 0 ≤ (ji15)
  ·rw [if_pos c16] at H
   have c16b0 := eq_true c16
   have c16b1 : decide (0 ≤ (ji15)) = true := decide_eq_true c16
   clear c16
   obtain ⟨ji17, hji17⟩ : ∃ j_ : Int, (shr .u64 a0_2 (ji15)) = j_ := ⟨_, rfl⟩
   replace H : (some (Go.bits .and .u64 (ji17) 1)) = some r := by first | (rw [hji17] at H; exact H) | (simp only [hji17] at H ⊢; exact H)
   have hji17_ : (a0_2 / 2 ^ min (ji15).toNat 64) = ji17 := hji17
   have hji17z : (ji15) ≤ 64 → (a0_2 / 2 ^ (ji15).toNat) = ji17 := shr_small hji17
   obtain rfl := Option.some.inj H
   go_enter Tryz.func39, Tryz.ntmps39
   go_wp2_with (first | ((with_reducible refine gD 2 rfl ?_); refine bX 2 #[.bool false, .int .u64 a0_1, .int .u64 a0_2] 24 ?_; intro gb211 hg w18 hbox hb; have BK211 := aM hbox; have GW211 := gS hg HB.out; have GE211 := GW211; replace HB := bS HB.out hb; clear hb hbox hg; obtain ⟨hcz19_0, hcz19_1, hcz19_2, hfz19_0, hfz19_1, hfz19_2⟩ := kY3 BK211.out))
   go_ret
   exact ⟨by first | rfl | (simp [errW_none, errW_some] <;> rfl) | (simp only [← hji15, ← hji17]; first | rfl | (simp [errW_none, errW_some] <;> rfl)) | (simp [*, errW_none, errW_some] <;> rfl), tB HB.out⟩
  ·rw [if_neg c16] at H
   exact absurd H (by simp)

/-! ### nameplateref05_Check: function 16 -/
mutual
def nameplateref05_Check.j0 : Nat → Bool → Bool → Int → Int → Int → Option (Int)
 | 0, _, _, _, _, _ => none
 | k + 1, x20, x213000, x213001, x213002, x213003 => if x20 = true then (some 2) else (nameplateref05_Check.l0 k x213003 x213000 x213001 x213002 x213003)
def nameplateref05_Check.l0 : Nat → Int → Bool → Int → Int → Int → Option (Int)
 | 0, _, _, _, _, _ => none
 | k + 1, x3, x213000, x213001, x213002, x213003 => (nameplateref05_wide.f x213000 x213001 x213002).bind fun t215 => (if x3 < t215 then ((nameplateref05_bit.f x213000 x213001 x213002 x3).bind fun t216 => (if t216 = 0 then (nameplateref05_Check.l0 k (wrap64 (x3 + 1)) x213000 x213001 x213002 x213003) else (some 2))) else (some 0))
end
def nameplateref05_Check.f (k : Nat) (a0_0 : Bool) (a0_1 : Int) (a0_2 : Int) (a0_3 : Int) : Option (Int) := (nameplateref04_Check.f a0_0 a0_1 a0_2).bind fun t213 => (if t213 = 0 then (if a0_3 < 0 then (nameplateref05_Check.j0 k true a0_0 a0_1 a0_2 a0_3) else ((nameplateref05_wide.f a0_0 a0_1 a0_2).bind fun t214 => (nameplateref05_Check.j0 k (decide (a0_3 > t214)) a0_0 a0_1 a0_2 a0_3))) else (nameplateref05_Check.j0 k true a0_0 a0_1 a0_2 a0_3))
theorem nameplateref05_Check.mono_l : ∀ k, (∀ y0 y1 y2 y3 y4, LeO (nameplateref05_Check.j0 k y0 y1 y2 y3 y4) (nameplateref05_Check.j0 (k + 1) y0 y1 y2 y3 y4)) ∧ (∀ y0 y1 y2 y3 y4, LeO (nameplateref05_Check.l0 k y0 y1 y2 y3 y4) (nameplateref05_Check.l0 (k + 1) y0 y1 y2 y3 y4))
 | 0 => ⟨fun _ _ _ _ _ r h => by simp [nameplateref05_Check.j0] at h, fun _ _ _ _ _ r h => by simp [nameplateref05_Check.l0] at h⟩
 | k + 1 => by
  obtain ⟨ih0, ih1⟩ := nameplateref05_Check.mono_l k
  refine ⟨?_, ?_⟩
  ·intro y0 y1 y2 y3 y4
   unfold nameplateref05_Check.j0
   repeat' first | (with_reducible first | apply ih0 | apply ih1 | exact LeO.refl _ | exact LeO.none _ | refine LeO.ite ?_ ?_ | refine LeO.bind ?_ (fun _ => ?_)) | apply ih0 | apply ih1 | exact LeO.none _ | refine LeO.ite ?_ ?_ | refine LeO.bind ?_ (fun _ => ?_)
  ·intro y0 y1 y2 y3 y4
   unfold nameplateref05_Check.l0
   repeat' first | (with_reducible first | apply ih0 | apply ih1 | exact LeO.refl _ | exact LeO.none _ | refine LeO.ite ?_ ?_ | refine LeO.bind ?_ (fun _ => ?_)) | apply ih0 | apply ih1 | exact LeO.none _ | refine LeO.ite ?_ ?_ | refine LeO.bind ?_ (fun _ => ?_)
theorem nameplateref05_Check.mono : ∀ a0 a1 a2 a3 k, LeO (nameplateref05_Check.f k a0 a1 a2 a3) (nameplateref05_Check.f (k + 1) a0 a1 a2 a3) := by
 intro a0 a1 a2 a3 k
 obtain ⟨ih0, ih1⟩ := nameplateref05_Check.mono_l k
 unfold nameplateref05_Check.f
 repeat' first | (with_reducible first | apply ih0 | apply ih1 | exact LeO.refl _ | exact LeO.none _ | refine LeO.ite ?_ ?_ | refine LeO.bind ?_ (fun _ => ?_)) | apply ih0 | apply ih1 | exact LeO.none _ | refine LeO.ite ?_ ?_ | refine LeO.bind ?_ (fun _ => ?_)
def nameplateref05_Check.T1 : Bool × List (List Nat × List Nat) := (true, [([], []), ([0], [0]), ([1], [1]), ([2], [2]), ([3, 2], [3]), ([4], [4]), ([5, 4], [4, 5]), ([6, 4], [4, 6]), ([4, 7], [4, 7]), ([8, 4], [8]), ([9], [9]), ([10, 9], [9, 10]), ([9], [9]), ([12, 9], [9, 12]), ([13, 9, 9], [9, 13]), ([11, 14, 9], [9, 11, 14]), ([9, 15], [9, 15])])
def nameplateref05_Check.B1 : List Nat := [0, 1, 3, 7, 15, 31, 63, 127, 255, 511, 1023, 2047, 1023, 5119, 13311, 32767, 65535]
theorem nameplateref05_Check.tab1 : rtab .any (opsOf Tryz.f16 1) = nameplateref05_Check.T1 := by kernel_rfl
theorem nameplateref05_Check.bits1 : waitsOk nameplateref05_Check.T1.2 nameplateref05_Check.B1 = true := by kernel_rfl
set_option maxHeartbeats 8000000 in
set_option maxRecDepth 100000 in
theorem nameplateref05_Check.calls (k : Nat) (a0_0 : Bool) (a0_1 : Int) (a0_2 : Int) (a0_3 : Int) (r : Int) (w : World) (h : nameplateref05_Check.f k a0_0 a0_1 a0_2 a0_3 = some r) :
  Calls Tryz.prog 16 #[.agg #[.bool a0_0, .int .u64 a0_1, .int .u64 a0_2, .int .i64 a0_3]] w fun e w' => e = .returned (.int .i64 r) ∧ Below w.heap.size w w' := by
 have hu26 := Tryz.underlying26
 have hu24 := Tryz.underlying24
 have HB := aM (Below.refl w.heap.size w)
 have H : ((nameplateref04_Check.f a0_0 a0_1 a0_2).bind fun t213 => (if t213 = 0 then (if a0_3 < 0 then (nameplateref05_Check.j0 k true a0_0 a0_1 a0_2 a0_3) else ((nameplateref05_wide.f a0_0 a0_1 a0_2).bind fun t214 => (nameplateref05_Check.j0 k (decide (a0_3 > t214)) a0_0 a0_1 a0_2 a0_3))) else (nameplateref05_Check.j0 k true a0_0 a0_1 a0_2 a0_3))) = some r := h
 clear h
 have HC2 := aM H
 clear H
 go_enter Tryz.func16, Tryz.ntmps16
 go_upto_region 1 with (first | ((with_reducible refine gD 1 rfl ?_); refine bX 1 #[.bool a0_0, .int .u64 a0_1, .int .u64 a0_2, .int .i64 a0_3] 26 ?_; intro gb212 hg w3 hbox hb; have BK212 := aM hbox; have GW212 := gS hg HB.out; have GE212 := GW212; replace HB := bS HB.out hb; clear hb hbox hg))
 (try simp only [Act.put, List.setIfInBounds_toArray, List.set_cons_zero, List.set_cons_succ])
 go_cut [20] (fun v20 wc => ∃ (kq : Nat) (x20_1 : Bool), v20 = .bool x20_1 ∧ Aside0 (nameplateref05_Check.j0 kq x20_1 a0_0 a0_1 a0_2 a0_3 = some r) ∧ Aside0 (kq ≤ k) ∧ Aside0 (wc.heap[gb212]? = some (.cells #[.bool a0_0, .int .u64 a0_1, .int .u64 a0_2, .int .i64 a0_3] 26 (0, 0))) ∧ Aside0 (Below w.heap.size w wc))
 case first =>
  have H := HC2.out
  clear HC2
  obtain ⟨t213, A4, H⟩ := oB H
  try dsimp only at H
  by_cases c5 : t213 = 0
  ·rw [if_pos c5] at H
   have c5b0 : (t213 == 0) = true := beq_iff_eq.mpr c5
   have c5b1 : (t213 != 0) = false := bne_eq_false_iff_eq.mpr c5
   clear c5
   (first | rw [c5b0] | (simp only [i64_w, i32_w]; rw [c5b0]) | skip)
   by_cases c6 : a0_3 < 0
   ·rw [if_pos c6] at H
    have c6b0 : decide (a0_3 < 0) = true := decide_eq_true c6
    clear c6
    have H' := aM H
    clear H
    try go_wp2
    replace BK212 := aM (kD BK212.out)
    replace HB := aM (bD HB.out)
    refine pS 17 (S := fun w' => cZ4 w' gb212 (.bool a0_0) (.int .u64 a0_1) (.int .u64 a0_2) (.int .i64 a0_3)) (ds := []) (kZ4 BK212.out) (fun hHeld => ?_); refine with_tabW nameplateref05_Check.tab1 nameplateref05_Check.bits1 (fun HT_ HW_ => ?_)
    generalize w3.drew = w7 at BK212 HB hHeld ⊢
    refine pP 0 4 ?_
    refine pT 1 5 ?_
    refine pO 2 6 (fun K hK => ?_)
    refine gO Tryz.func38 #[.agg #[.bool a0_0, .int .u64 a0_1, .int .u64 a0_2]] ?_
    with_reducible refine (nameplateref04_Check.calls a0_0 a0_1 a0_2 t213 _ A4.out).mono ?_
    rintro e w8 ⟨rfl, hb⟩
    refine ⟨_, rfl, ?_⟩
    replace BK212 := kB BK212.out hb
    replace HB := bS HB.out hb
    (try clear hb)
    refine hK.out _ _ (kZ4 BK212.out) (fun hHeld => ?_)
    clear hK K
    refine pN ?_
    refine pP 3 7 ?_
    refine pP 4 8 ?_
    refine pP 5 9 ?_
    refine pT 6 10 ?_
    refine pP 7 11 ?_
    refine pP 8 12 ?_
    refine pP 9 13 ?_
    refine pU 10 14 ?_
    refine pU 11 15 ?_
    refine pU 12 16 ?_
    refine pU 13 17 ?_
    refine pU 14 18 ?_
    refine pU 15 19 ?_
    refine pP 16 20 ?_
    refine pD ?_
    try go_wp2
    go_meet
    case rel => exact ⟨_, (true), tF, H', ⟨by first | omega | exact Nat.le_refl _⟩, ⟨tK BK212.out⟩, ⟨tB HB.out⟩⟩
   ·rw [if_neg c6] at H
    have c6b0 : decide (a0_3 < 0) = false := decide_eq_false c6
    clear c6
    obtain ⟨t214, A9, H⟩ := oB H
    try dsimp only at H
    have H' := aM H
    clear H
    try go_wp2
    replace BK212 := aM (kD BK212.out)
    replace HB := aM (bD HB.out)
    refine pS 17 (S := fun w' => cZ4 w' gb212 (.bool a0_0) (.int .u64 a0_1) (.int .u64 a0_2) (.int .i64 a0_3)) (ds := []) (kZ4 BK212.out) (fun hHeld => ?_); refine with_tabW nameplateref05_Check.tab1 nameplateref05_Check.bits1 (fun HT_ HW_ => ?_)
    generalize w3.drew = w10 at BK212 HB hHeld ⊢
    refine pP 0 4 ?_
    refine pT 1 5 ?_
    refine pO 2 6 (fun K hK => ?_)
    refine gO Tryz.func38 #[.agg #[.bool a0_0, .int .u64 a0_1, .int .u64 a0_2]] ?_
    with_reducible refine (nameplateref04_Check.calls a0_0 a0_1 a0_2 t213 _ A4.out).mono ?_
    rintro e w11 ⟨rfl, hb⟩
    refine ⟨_, rfl, ?_⟩
    replace BK212 := kB BK212.out hb
    replace HB := bS HB.out hb
    (try clear hb)
    refine hK.out _ _ (kZ4 BK212.out) (fun hHeld => ?_)
    clear hK K
    refine pN ?_
    refine pP 3 7 ?_
    refine pP 4 8 ?_
    refine pP 5 9 ?_
    refine pT 6 10 ?_
    refine pP 7 11 ?_
    refine pP 8 12 ?_
    refine pP 9 13 ?_
    refine pP 10 14 ?_
    refine pP 12 16 ?_
    refine pT 11 15 ?_
    refine pT 13 17 ?_
    refine pO 14 18 (fun K hK => ?_)
    refine gO Tryz.func35 #[.agg #[.bool a0_0, .int .u64 a0_1, .int .u64 a0_2]] ?_
    with_reducible refine (nameplateref05_wide.calls a0_0 a0_1 a0_2 t214 _ A9.out).mono ?_
    rintro e w12 ⟨rfl, hb⟩
    refine ⟨_, rfl, ?_⟩
    replace BK212 := kB BK212.out hb
    replace HB := bS HB.out hb
    (try clear hb)
    refine hK.out _ _ (kZ4 BK212.out) (fun hHeld => ?_)
    clear hK K
    refine pN ?_
    refine pP 15 19 ?_
    refine pP 16 20 ?_
    refine pD ?_
    try go_wp2
    go_meet
    case rel => exact ⟨_, (decide (a0_3 > t214)), tF, H', ⟨by first | omega | exact Nat.le_refl _⟩, ⟨tK BK212.out⟩, ⟨tB HB.out⟩⟩
  ·rw [if_neg c5] at H
   have c5b0 : (t213 == 0) = false := beq_eq_false_iff_ne.mpr c5
   have c5b1 : (t213 != 0) = true := bne_iff_ne.mpr c5
   (first | rw [c5b0] | (simp only [i64_w, i32_w]; rw [c5b0]) | skip)
   have H' := aM H
   clear H
   try go_wp2
   replace BK212 := aM (kD BK212.out)
   replace HB := aM (bD HB.out)
   refine pS 17 (S := fun w' => cZ4 w' gb212 (.bool a0_0) (.int .u64 a0_1) (.int .u64 a0_2) (.int .i64 a0_3)) (ds := []) (kZ4 BK212.out) (fun hHeld => ?_); refine with_tabW nameplateref05_Check.tab1 nameplateref05_Check.bits1 (fun HT_ HW_ => ?_)
   generalize w3.drew = w13 at BK212 HB hHeld ⊢
   refine pP 0 4 ?_
   refine pT 1 5 ?_
   refine pO 2 6 (fun K hK => ?_)
   refine gO Tryz.func38 #[.agg #[.bool a0_0, .int .u64 a0_1, .int .u64 a0_2]] ?_
   with_reducible refine (nameplateref04_Check.calls a0_0 a0_1 a0_2 t213 _ A4.out).mono ?_
   rintro e w14 ⟨rfl, hb⟩
   refine ⟨_, rfl, ?_⟩
   replace BK212 := kB BK212.out hb
   replace HB := bS HB.out hb
   (try clear hb)
   refine hK.out _ _ (kZ4 BK212.out) (fun hHeld => ?_)
   clear hK K
   refine pN ?_
   refine pP 3 7 ?_
   refine pP 4 8 ?_
   refine pU 5 9 ?_
   refine pU 6 10 ?_
   refine pU 7 11 ?_
   refine pP 8 12 ?_
   refine pP 9 13 ?_
   refine pU 10 14 ?_
   refine pU 11 15 ?_
   refine pU 12 16 ?_
   refine pU 13 17 ?_
   refine pU 14 18 ?_
   refine pU 15 19 ?_
   refine pP 16 20 ?_
   refine pD ?_
   try go_wp2
   go_meet
   case rel => exact ⟨_, (true), tF, H', ⟨by first | omega | exact Nat.le_refl _⟩, ⟨tK BK212.out⟩, ⟨tB HB.out⟩⟩
 case rest =>
  clear HC2
  try clear c1
  try clear p2
  try clear c3
  try clear c5
  try clear c5b0
  try clear c5b1
  try clear c6
  try clear c6b0
  obtain ⟨kq, x20_1, rfl, HA, HJ1, BK212, HB⟩ := hcut
  cases kq with
  | zero => exact absurd HA.out (by simp [nameplateref05_Check.j0])
  | succ kj1 =>
   have H := HA.out
   clear HA
   simp only [nameplateref05_Check.j0] at H
   by_cases c15 : x20_1 = true
   ·subst c15
    rw [if_pos rfl] at H
    obtain rfl := Option.some.inj H
    go_wp2
    go_ret
    exact ⟨tE, tB HB.out⟩
   ·replace c15 := Bool.eq_false_iff.mpr c15
    subst c15
    rw [if_neg (show ¬ (false = true) by decide)] at H
    have H' := aM H
    clear H
    obtain ⟨hcz16_0, hcz16_1, hcz16_2, hcz16_3, hfz16_0, hfz16_1, hfz16_2, hfz16_3⟩ := kY4 BK212.out
    go_wp2
    go_loopg [3] kj1 (fun kq v3 w' => ∃ (x3_2 : Int), v3 = .int .i64 x3_2 ∧ Aside0 (nameplateref05_Check.l0 kq x3_2 a0_0 a0_1 a0_2 a0_3 = some r) ∧ Aside0 (kq ≤ kj1) ∧ Aside0 (w'.heap[gb212]? = some (.cells #[.bool a0_0, .int .u64 a0_1, .int .u64 a0_2, .int .i64 a0_3] 26 (0, 0))) ∧ Aside0 (Below w.heap.size w w'))
    case atStart => exact ⟨(a0_3), tF, H', ⟨Nat.le_refl _⟩, ⟨tK BK212.out⟩, ⟨tB HB.out⟩⟩
    case round =>
     clear H'
     try clear c1
     try clear p2
     try clear c3
     try clear c5
     try clear c5b0
     try clear c5b1
     try clear c6
     try clear c6b0
     try clear c15
     try clear c16
     try clear hcz16_0 hcz16_1 hcz16_2 hcz16_3 hfz16_0 hfz16_1 hfz16_2 hfz16_3
     try clear p2
     obtain ⟨x3_2, rfl, HA, HK2, BK212, HB⟩ := hrel
     cases gk with
     | zero => exact absurd HA.out (by simp [nameplateref05_Check.l0])
     | succ k2 =>
      have H := HA.out
      clear HA
      simp only [nameplateref05_Check.l0] at H
      obtain ⟨t215, A17, H⟩ := oB H
      try dsimp only at H
      by_cases c18 : x3_2 < t215
      ·rw [if_pos c18] at H
       have c18b0 : decide (x3_2 < t215) = true := decide_eq_true c18
       clear c18
       obtain ⟨t216, A19, H⟩ := oB H
       try dsimp only at H
       by_cases c20 : t216 = 0
       ·rw [if_pos c20] at H
        have c20b0 : (t216 == 0) = true := beq_iff_eq.mpr c20
        have c20b1 : (t216 != 0) = false := bne_eq_false_iff_eq.mpr c20
        clear c20
        have H' := aM H
        clear H
        obtain ⟨hcz21_0, hcz21_1, hcz21_2, hcz21_3, hfz21_0, hfz21_1, hfz21_2, hfz21_3⟩ := kY4 BK212.out
        go_wp2_with (first | ((with_reducible refine gC 35 rfl ?_); refine gL (some 26) Tryz.func35 #[.agg #[.bool a0_0, .int .u64 a0_1, .int .u64 a0_2]] ?_; (with_reducible refine (nameplateref05_wide.calls a0_0 a0_1 a0_2 t215 _ A17.out).mono ?_); rintro e w22 ⟨rfl, hb⟩; refine ⟨_, rfl, ?_⟩; replace BK212 := kB BK212.out hb; replace HB := bS HB.out hb; (try clear hb); obtain ⟨hcz23_0, hcz23_1, hcz23_2, hcz23_3, hfz23_0, hfz23_1, hfz23_2, hfz23_3⟩ := kY4 BK212.out) | ((with_reducible refine gC 39 rfl ?_); refine gL (some 33) Tryz.func39 #[.agg #[.bool a0_0, .int .u64 a0_1, .int .u64 a0_2], .int .i64 x3_2] ?_; (with_reducible refine (nameplateref05_bit.calls a0_0 a0_1 a0_2 x3_2 t216 _ A19.out).mono ?_); rintro e w24 ⟨rfl, hb⟩; refine ⟨_, rfl, ?_⟩; replace BK212 := kB BK212.out hb; replace HB := bS HB.out hb; (try clear hb)))
        go_roundg k2
        case measure => have := HJ1.out; have := HK2.out; omega
        case rel => exact ⟨(wrap64 (x3_2 + 1)), tF, H', ⟨by have := HJ1.out; have := HK2.out; omega⟩, ⟨tK BK212.out⟩, ⟨tB HB.out⟩⟩
       ·rw [if_neg c20] at H
        have c20b0 : (t216 == 0) = false := beq_eq_false_iff_ne.mpr c20
        have c20b1 : (t216 != 0) = true := bne_iff_ne.mpr c20
        obtain rfl := Option.some.inj H
        obtain ⟨hcz25_0, hcz25_1, hcz25_2, hcz25_3, hfz25_0, hfz25_1, hfz25_2, hfz25_3⟩ := kY4 BK212.out
        go_wp2_with (first | ((with_reducible refine gC 35 rfl ?_); refine gL (some 26) Tryz.func35 #[.agg #[.bool a0_0, .int .u64 a0_1, .int .u64 a0_2]] ?_; (with_reducible refine (nameplateref05_wide.calls a0_0 a0_1 a0_2 t215 _ A17.out).mono ?_); rintro e w26 ⟨rfl, hb⟩; refine ⟨_, rfl, ?_⟩; replace BK212 := kB BK212.out hb; replace HB := bS HB.out hb; (try clear hb); obtain ⟨hcz27_0, hcz27_1, hcz27_2, hcz27_3, hfz27_0, hfz27_1, hfz27_2, hfz27_3⟩ := kY4 BK212.out) | ((with_reducible refine gC 39 rfl ?_); refine gL (some 33) Tryz.func39 #[.agg #[.bool a0_0, .int .u64 a0_1, .int .u64 a0_2], .int .i64 x3_2] ?_; (with_reducible refine (nameplateref05_bit.calls a0_0 a0_1 a0_2 x3_2 t216 _ A19.out).mono ?_); rintro e w28 ⟨rfl, hb⟩; refine ⟨_, rfl, ?_⟩; replace BK212 := kB BK212.out hb; replace HB := bS HB.out hb; (try clear hb)))
        go_ret
        exact ⟨tE, tB HB.out⟩
      ·rw [if_neg c18] at H
       have c18b0 : decide (x3_2 < t215) = false := decide_eq_false c18
       clear c18
       obtain rfl := Option.some.inj H
       obtain ⟨hcz29_0, hcz29_1, hcz29_2, hcz29_3, hfz29_0, hfz29_1, hfz29_2, hfz29_3⟩ := kY4 BK212.out
       go_wp2_with (first | ((with_reducible refine gC 35 rfl ?_); refine gL (some 26) Tryz.func35 #[.agg #[.bool a0_0, .int .u64 a0_1, .int .u64 a0_2]] ?_; (with_reducible refine (nameplateref05_wide.calls a0_0 a0_1 a0_2 t215 _ A17.out).mono ?_); rintro e w30 ⟨rfl, hb⟩; refine ⟨_, rfl, ?_⟩; replace BK212 := kB BK212.out hb; replace HB := bS HB.out hb; (try clear hb)))
       go_ret
       exact ⟨tE, tB HB.out⟩

end Go.Proofs.YtbalmnkbodcigaaGreatDoor.ORc
