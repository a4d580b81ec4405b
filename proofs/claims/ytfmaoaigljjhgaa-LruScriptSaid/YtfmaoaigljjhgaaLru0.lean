/- The ring of an lru list in memory: links between nodes; what taking a node out, and putting one in, leaves. -/
import Derived.Test.YtfmaoaigljjhgaaProg
import Derived.Test.YtfmaoaigljjhgaaWWords
import Derived.Maps.OwnSet
import Derived.BigRegion
import Derived.ChangeAlike
namespace Go.Proofs.Ytfmaoaigljjhgaa.Lru
open Go Go.RowKit Go.Maps Go.Proofs.YtfmaoaigljjhgaaW.PrintWords

theorem cso {w : World} {a b : Addr} {v : Value} (h : a ≠ b) : (w.setCell a v).cell? b = w.cell? b := World.cell?_setCell_other w a b v h
theorem css {w : World} {a : Addr} {v u : Value} (h : w.cell? a = some u) : (w.setCell a v).cell? a = some v := World.cell?_setCell_same w a v h
theorem mem_dropLast {α : Type} {l : List α} {x : α} (h : x ∈ l.dropLast) : x ∈ l := (List.dropLast_sublist l).subset h
/-! ### What a step leaves -/
/-- Of what there was, the blocks of F alone may have turned. -/
structure Turn (F : Nat → Prop) (w w' : World) : Prop where
  os : w'.os = w.os
  tape : w'.tape = w.tape
  output : w'.output = w.output
  size : w.heap.size ≤ w'.heap.size
  block : ∀ k, k < w.heap.size → ¬ F k → w'.heap[k]? = w.heap[k]?
theorem Turn.refl (F : Nat → Prop) (w : World) : Turn F w w := ⟨rfl, rfl, rfl, Nat.le_refl _, fun _ _ _ => rfl⟩
theorem Turn.mono {F G : Nat → Prop} {w w' : World} (h : Turn F w w') (hf : ∀ k, F k → G k) : Turn G w w' := ⟨h.os, h.tape, h.output, h.size, fun k hk hg => h.block k hk (fun hf' => hg (hf k hf'))⟩
theorem Turn.trans {F : Nat → Prop} {a b c : World} (h : Turn F a b) (k : Turn F b c) : Turn F a c :=
  ⟨k.os.trans h.os, k.tape.trans h.tape, k.output.trans h.output, Nat.le_trans h.size k.size, fun i hi hf => (k.block i (Nat.lt_of_lt_of_le hi h.size) hf).trans (h.block i hi hf)⟩
/-- Two steps, the second of which may turn new blocks as well. -/
theorem Turn.next {F G : Nat → Prop} {a b c : World} (h : Turn F a b) (k : Turn G b c) (hg : ∀ i, i < a.heap.size → G i → F i) : Turn F a c :=
  ⟨k.os.trans h.os, k.tape.trans h.tape, k.output.trans h.output, Nat.le_trans h.size k.size, fun i hi hf => (k.block i (Nat.lt_of_lt_of_le hi h.size) (fun g => hf (hg i hi g))).trans (h.block i hi hf)⟩
theorem Turn.of_below {F : Nat → Prop} {w w' : World} (h : Below w.heap.size w w') : Turn F w w' := ⟨h.os, h.tape, h.output, h.size, fun k hk _ => h.block k hk⟩
theorem Turn.below {F : Nat → Prop} {w w' : World} {B : Nat} (h : Turn F w w') (hF : ∀ k, F k → B ≤ k) (hB : B ≤ w.heap.size) : Below B w w' :=
  ⟨h.os, h.tape, h.output, h.size, fun k hk => h.block k (by omega) (fun f => by have := hF k f; omega)⟩
theorem Turn.setCell {F : Nat → Prop} (w : World) {a : Addr} (ha : F a.block) (u : Value) : Turn F w (w.setCell a u) :=
  ⟨rfl, rfl, rfl, by simp, fun k _ hf => Below.heap_setCell w a u k (fun e => hf (e ▸ ha))⟩
theorem Turn.alloc {F : Nat → Prop} (w : World) (o : Obj) : Turn F w (w.alloc o) := ⟨rfl, rfl, rfl, by simp, fun k hk _ => Below.heap_alloc w o k hk⟩
theorem Turn.grown {F : Nat → Prop} {w w' : World} {b : Nat} (h : w.grownBy w' (some b)) (hb : F b) : Turn F w w' :=
  ⟨h.os, h.tape, h.output, h.size, fun k hk hf => h.block k hk (fun e => hf (by injection e with e; exact e ▸ hb))⟩
theorem drewN_heap (w : World) (n : Nat) : (w.drewN n).heap = w.heap := by first | rfl | simp
theorem drewN_cell (w : World) (n : Nat) (a : Addr) : (w.drewN n).cell? a = w.cell? a := by unfold World.cell?; rw [drewN_heap]
theorem Turn.drewN {F : Nat → Prop} (w : World) (n : Nat) : Turn F w (w.drewN n) := ⟨rfl, rfl, rfl, by rw [drewN_heap]; exact Nat.le_refl _, fun k _ _ => by rw [drewN_heap]⟩

/-! ### Addresses, nodes, the list's own cells -/
def nd (k : Nat) : Addr := ⟨k, 0, none⟩
def rg (b : Nat) : Addr := ⟨b, 2, none⟩
def fa (p : Addr) (d : Nat) : Addr := ⟨p.block, p.off + d, none⟩
def NodeAt (T : Nat) (w : World) (k : Nat) (key : ByteArray) (v : Value) : Prop := ∃ a c, w.heap[k]? = some (.cells #[.string key, v, a, c] T (0, 0))
def HeadAt (T : Nat) (w : World) (b : Nat) (most : Int) (mb : Nat) : Prop := ∃ r0 r1 a c, w.heap[b]? = some (.cells #[.int .i64 most, .map (some mb), r0, r1, a, c] T (0, 0))
theorem NodeAt.setCell {T : Nat} {w : World} {k : Nat} {key : ByteArray} {v : Value} (h : NodeAt T w k key v) {a : Addr} (ha : 2 ≤ a.off) (hs : a.spot = none) (u : Value) : NodeAt T (w.setCell a u) k key v := by
  obtain ⟨x, y, h⟩ := h
  by_cases hk : k = a.block
  · subst hk
    have e : (w.setCell a u).heap[a.block]? = some (.cells ((#[.string key, v, x, y] : Array Value).setIfInBounds a.off u) T (0, 0)) := by
      show (w.heap.modify a.block _)[a.block]? = _
      rw [Array.getElem?_modify, if_pos rfl, h]
      simp [hs]
    unfold NodeAt
    rw [e]
    obtain ⟨b, o, s⟩ := a
    simp only at ha hs
    match o, ha with
    | 2, _ => exact ⟨u, y, by simp⟩
    | 3, _ => exact ⟨x, u, by simp⟩
    | o + 4, _ => exact ⟨x, y, by rw [Array.setIfInBounds_eq_of_size_le (by simp)]⟩
  · exact ⟨x, y, by rw [Below.heap_setCell w a u k hk]; exact h⟩
theorem HeadAt.setCell {T : Nat} {w : World} {b : Nat} {most : Int} {mb : Nat} (h : HeadAt T w b most mb) {a : Addr} (ha : 2 ≤ a.off) (hs : a.spot = none) (u : Value) : HeadAt T (w.setCell a u) b most mb := by
  obtain ⟨r0, r1, x, y, h⟩ := h
  by_cases hk : b = a.block
  · subst hk
    have e : (w.setCell a u).heap[a.block]? = some (.cells ((#[.int .i64 most, .map (some mb), r0, r1, x, y] : Array Value).setIfInBounds a.off u) T (0, 0)) := by
      show (w.heap.modify a.block _)[a.block]? = _
      rw [Array.getElem?_modify, if_pos rfl, h]
      simp [hs]
    unfold HeadAt
    rw [e]
    obtain ⟨b, o, s⟩ := a
    simp only at ha hs
    match o, ha with
    | 2, _ => exact ⟨u, r1, x, y, by simp⟩
    | 3, _ => exact ⟨r0, u, x, y, by simp⟩
    | 4, _ => exact ⟨r0, r1, u, y, by simp⟩
    | 5, _ => exact ⟨r0, r1, x, u, by simp⟩
    | o + 6, _ => exact ⟨r0, r1, x, y, by rw [Array.setIfInBounds_eq_of_size_le (by simp)]⟩
  · exact ⟨r0, r1, x, y, by rw [Below.heap_setCell w a u b hk]; exact h⟩
theorem NodeAt.key {T : Nat} {w : World} {k : Nat} {key : ByteArray} {v : Value} (h : NodeAt T w k key v) : w.cell? ⟨k, 0, none⟩ = some (.string key) := by
  obtain ⟨x, y, h⟩ := h
  simp [World.cell?, h]
theorem NodeAt.val {T : Nat} {w : World} {k : Nat} {key : ByteArray} {v : Value} (h : NodeAt T w k key v) : w.cell? ⟨k, 1, none⟩ = some v := by
  obtain ⟨x, y, h⟩ := h
  simp [World.cell?, h]
theorem NodeAt.some {T : Nat} {w : World} {k : Nat} {key : ByteArray} {v : Value} (h : NodeAt T w k key v) : (∃ u, w.cell? (fa (nd k) 2) = .some u) ∧ (∃ u, w.cell? (fa (nd k) 3) = .some u) := by
  obtain ⟨x, y, h⟩ := h
  exact ⟨⟨x, by simp [World.cell?, h, fa, nd]⟩, ⟨y, by simp [World.cell?, h, fa, nd]⟩⟩
theorem NodeAt.frozen {T : Nat} {w : World} {k : Nat} {key : ByteArray} {v : Value} (h : NodeAt T w k key v) (a : Addr) (ha : a.block = k) : w.frozen? a = false := by
  obtain ⟨x, y, h⟩ := h
  subst ha
  simp [World.frozen?, h]
theorem HeadAt.most {T : Nat} {w : World} {b : Nat} {most : Int} {mb : Nat} (h : HeadAt T w b most mb) : w.cell? ⟨b, 0, none⟩ = some (.int .i64 most) := by
  obtain ⟨r0, r1, x, y, h⟩ := h
  simp [World.cell?, h]
theorem HeadAt.keys {T : Nat} {w : World} {b : Nat} {most : Int} {mb : Nat} (h : HeadAt T w b most mb) : w.cell? ⟨b, 1, none⟩ = some (.map (some mb)) := by
  obtain ⟨r0, r1, x, y, h⟩ := h
  simp [World.cell?, h]
theorem HeadAt.some {T : Nat} {w : World} {b : Nat} {most : Int} {mb : Nat} (h : HeadAt T w b most mb) : (∃ u, w.cell? (fa (rg b) 2) = .some u) ∧ (∃ u, w.cell? (fa (rg b) 3) = .some u) := by
  obtain ⟨r0, r1, x, y, h⟩ := h
  exact ⟨⟨x, by simp [World.cell?, h, fa, rg]⟩, ⟨y, by simp [World.cell?, h, fa, rg]⟩⟩
theorem HeadAt.frozen {T : Nat} {w : World} {b : Nat} {most : Int} {mb : Nat} (h : HeadAt T w b most mb) (a : Addr) (ha : a.block = b) : w.frozen? a = false := by
  obtain ⟨r0, r1, x, y, h⟩ := h
  subst ha
  simp [World.frozen?, h]

/-! ### Links -/
def Link (w : World) (p q : Addr) : Prop := w.cell? (fa p 2) = some (.pointer (some q)) ∧ w.cell? (fa q 3) = some (.pointer (some p))
def Links (w : World) : List Addr → Prop
  | [] => True
  | [_] => True
  | p :: q :: r => Link w p q ∧ Links w (q :: r)
theorem Links.move {w w' : World} : ∀ {L : List Addr}, Links w L → (∀ x ∈ L.dropLast, w'.cell? (fa x 2) = w.cell? (fa x 2)) → (∀ x ∈ L.tail, w'.cell? (fa x 3) = w.cell? (fa x 3)) → Links w' L
  | [], _, _, _ => trivial
  | [_], _, _, _ => trivial
  | p :: q :: r, h, h1, h2 => by
    refine ⟨⟨(h1 p (by simp)).trans h.1.1, (h2 q (by simp)).trans h.1.2⟩, Links.move h.2 (fun x hx => h1 x ?_) (fun x hx => h2 x ?_)⟩
    · rw [List.dropLast_cons_of_ne_nil (by simp)]
      exact List.mem_cons_of_mem _ hx
    · simp only [List.tail_cons] at hx ⊢
      exact List.mem_cons_of_mem _ hx
theorem Links.append {w : World} {p : Addr} : ∀ {A B : List Addr}, Links w (A ++ p :: B) ↔ Links w (A ++ [p]) ∧ Links w (p :: B)
  | [], B => by simp [Links]
  | [a], B => by simp [Links]
  | a :: b :: A, B => by
    have ih := @Links.append w p (b :: A) B
    simp only [List.cons_append] at ih ⊢
    show (Link w a b ∧ Links w (b :: (A ++ p :: B))) ↔ (Link w a b ∧ Links w (b :: (A ++ [p]))) ∧ _
    rw [ih, and_assoc]
/-- Addresses of which each block holds one alone. -/
def Apart (L : List Addr) : Prop := ∀ x ∈ L, ∀ y ∈ L, x.block = y.block → x = y
theorem fa_inj {x y : Addr} {d : Nat} (hx : x.spot = none) (hy : y.spot = none) (h : fa x d = fa y d) : x = y := by
  obtain ⟨a, b, c⟩ := x
  obtain ⟨a', b', c'⟩ := y
  simp only [fa, Addr.mk.injEq, and_true] at h
  simp only at hx hy
  rw [hx, hy, h.1, show b = b' by omega]
theorem fa_ne {x y : Addr} (h : x.block = y.block → x = y) : fa x 2 ≠ fa y 3 := by
  intro e
  have h1 : x.block = y.block := (congrArg Addr.block e : (fa x 2).block = (fa y 3).block)
  have h2 : x.off + 2 = y.off + 3 := (congrArg Addr.off e : (fa x 2).off = (fa y 3).off)
  rw [h h1] at h2
  omega
/-- A node taken out. -/
theorem Links.out {w : World} {A B : List Addr} {p n q : Addr} (h : Links w (A ++ p :: n :: q :: B)) (hap : Apart (A ++ p :: n :: q :: B)) (hsp : ∀ x ∈ A ++ p :: n :: q :: B, x.spot = none)
    (hs : (A ++ p :: n :: q :: B).dropLast.Nodup) (ht : (A ++ p :: n :: q :: B).tail.Nodup) :
    Links ((w.setCell (fa p 2) (.pointer (some q))).setCell (fa q 3) (.pointer (some p))) (A ++ p :: q :: B) := by
  rw [Links.append] at h ⊢
  obtain ⟨h1, ⟨hpn, hnq, h2⟩⟩ := h
  have mp : p ∈ A ++ p :: n :: q :: B := by simp
  have mq : q ∈ A ++ p :: n :: q :: B := by simp
  have npq : fa p 2 ≠ fa q 3 := fa_ne (hap p mp q mq)
  have ds : (A ++ p :: n :: q :: B).dropLast = A ++ p :: n :: (q :: B).dropLast := by
    rw [List.dropLast_append_of_ne_nil (by simp), List.dropLast_cons_of_ne_nil (by simp), List.dropLast_cons_of_ne_nil (by simp)]
  rw [ds] at hs
  have c2 : ∀ x, x ∈ A ++ p :: n :: q :: B → x ≠ p → ((w.setCell (fa p 2) (.pointer (some q))).setCell (fa q 3) (.pointer (some p))).cell? (fa x 2) = w.cell? (fa x 2) := by
    intro x hx hxp
    rw [cso (fun e => fa_ne (hap x hx q mq) e.symm), cso (fun e => hxp (fa_inj (hsp x hx) (hsp p mp) e.symm))]
  have c3 : ∀ x, x ∈ A ++ p :: n :: q :: B → x ≠ q → ((w.setCell (fa p 2) (.pointer (some q))).setCell (fa q 3) (.pointer (some p))).cell? (fa x 3) = w.cell? (fa x 3) := by
    intro x hx hxq
    rw [cso (fun e => hxq (fa_inj (hsp x hx) (hsp q mq) e.symm)), cso (fun e => fa_ne (hap p mp x hx) e)]
  have hs' := List.nodup_append.1 hs
  refine ⟨h1.move ?_ ?_, ⟨?_, ?_⟩, h2.move ?_ ?_⟩
  · intro x hx
    rw [List.dropLast_concat] at hx
    exact c2 x (List.mem_append_left _ hx) (hs'.2.2 x hx p (by simp))
  · intro x hx
    refine c3 x ?_ ?_
    · have := List.mem_of_mem_tail hx
      rw [List.mem_append] at this ⊢
      rcases this with h | h
      · exact .inl h
      · exact .inr (by simp at h; simp [h])
    · rintro rfl
      cases A with
      | nil => simp at hx
      | cons a A =>
        simp only [List.cons_append, List.tail_cons] at hx ht
        have := (List.nodup_append.1 ht).2.2
        rw [List.mem_append] at hx
        rcases hx with h | h
        · exact this x h x (by simp) rfl
        · have e : x = p := by simpa using h
          have := (List.nodup_append.1 ht).2.1
          rw [e] at this
          simp at this
  · rw [cso (fun e => npq e.symm)]
    exact css hpn.1
  · have : (w.setCell (fa p 2) (.pointer (some q))).cell? (fa q 3) = some (.pointer (some n)) := by
      rw [cso npq]
      exact hnq.2
    exact css this
  · intro x hx
    refine c2 x ?_ ?_
    · have := mem_dropLast hx
      rw [List.mem_append]
      exact .inr (List.mem_cons_of_mem _ (List.mem_cons_of_mem _ this))
    · rintro rfl
      have := hs'.2.1
      simp only [List.nodup_cons, List.mem_cons, not_or] at this
      exact this.1.2 hx
  · intro x hx
    simp only [List.tail_cons] at hx
    refine c3 x (by simp [hx]) ?_
    rintro rfl
    cases A with
    | nil =>
      simp only [List.nil_append, List.tail_cons, List.nodup_cons, List.mem_cons, not_or] at ht
      exact ht.2.1 hx
    | cons a A =>
      simp only [List.cons_append, List.tail_cons] at ht
      have := (List.nodup_append.1 ht).2.1
      simp only [List.nodup_cons, List.mem_cons, not_or] at this
      exact this.2.2.1 hx
/-- A node put in ahead. -/
theorem Links.into {w : World} {B : List Addr} {o n f : Addr} (h : Links w (o :: f :: B)) (hap : Apart (n :: o :: f :: B)) (hsp : ∀ x ∈ n :: o :: f :: B, x.spot = none) (hs : (o :: f :: B).dropLast.Nodup) (ht : (f :: B).Nodup) (hn : n ∉ o :: f :: B)
    (hn2 : ∃ u, w.cell? (fa n 2) = some u) (hn3 : ∃ u, w.cell? (fa n 3) = some u) :
    Links ((((w.setCell (fa n 3) (.pointer (some o))).setCell (fa n 2) (.pointer (some f))).setCell (fa f 3) (.pointer (some n))).setCell (fa o 2) (.pointer (some n))) (o :: n :: f :: B) := by
  obtain ⟨hof, hB⟩ := h
  obtain ⟨u2, hn2⟩ := hn2
  obtain ⟨u3, hn3⟩ := hn3
  have mn : n ∈ n :: o :: f :: B := by simp
  have mo : o ∈ n :: o :: f :: B := by simp
  have mf : f ∈ n :: o :: f :: B := by simp
  have no : n ≠ o := fun e => hn (by simp [e])
  have nf : n ≠ f := fun e => hn (by simp [e])
  have i2 : ∀ x ∈ n :: o :: f :: B, ∀ y ∈ n :: o :: f :: B, x ≠ y → fa x 2 ≠ fa y 2 := fun x hx y hy hne e => hne (fa_inj (hsp x hx) (hsp y hy) e)
  have i3 : ∀ x ∈ n :: o :: f :: B, ∀ y ∈ n :: o :: f :: B, x ≠ y → fa x 3 ≠ fa y 3 := fun x hx y hy hne e => hne (fa_inj (hsp x hx) (hsp y hy) e)
  have i23 : ∀ x ∈ n :: o :: f :: B, ∀ y ∈ n :: o :: f :: B, fa x 2 ≠ fa y 3 := fun x hx y hy => fa_ne (hap x hx y hy)
  have i32 : ∀ x ∈ n :: o :: f :: B, ∀ y ∈ n :: o :: f :: B, fa x 3 ≠ fa y 2 := fun x hx y hy e => fa_ne (hap y hy x hx) e.symm
  refine ⟨⟨?_, ?_⟩, ⟨?_, ?_⟩, hB.move ?_ ?_⟩
  · refine css (u := .pointer (some f)) ?_
    rw [cso (i32 f mf o mo), cso (i2 n mn o mo no), cso (i32 n mn o mo)]
    exact hof.1
  · rw [cso (i23 o mo n mn), cso (i3 f mf n mn (Ne.symm nf)), cso (i23 n mn n mn)]
    exact css hn3
  · rw [cso (i2 o mo n mn (Ne.symm no)), cso (i32 f mf n mn)]
    refine css (u := u2) ?_
    rw [cso (i32 n mn n mn)]
    exact hn2
  · rw [cso (i23 o mo f mf)]
    refine css (u := .pointer (some o)) ?_
    rw [cso (i23 n mn f mf), cso (i3 n mn f mf nf)]
    exact hof.2
  · intro x hx
    have hx' : x ∈ n :: o :: f :: B := List.mem_cons_of_mem _ (List.mem_cons_of_mem _ (mem_dropLast hx))
    have xo : x ≠ o := by
      rintro rfl
      rw [List.dropLast_cons_of_ne_nil (by simp)] at hs
      exact (List.nodup_cons.1 hs).1 hx
    have xn : x ≠ n := by
      rintro rfl
      exact hn (List.mem_cons_of_mem _ (mem_dropLast hx))
    rw [cso (i2 o mo x hx' (Ne.symm xo)), cso (i32 f mf x hx'), cso (i2 n mn x hx' (Ne.symm xn)), cso (i32 n mn x hx')]
  · intro x hx
    simp only [List.tail_cons] at hx
    have hx' : x ∈ n :: o :: f :: B := by simp [hx]
    have xf : x ≠ f := by
      rintro rfl
      exact (List.nodup_cons.1 ht).1 hx
    have xn : x ≠ n := by
      rintro rfl
      exact hn (by simp [hx])
    rw [cso (i23 o mo x hx'), cso (i3 f mf x hx' (Ne.symm xf)), cso (i23 n mn x hx'), cso (i3 n mn x hx' (Ne.symm xn))]
end Go.Proofs.Ytfmaoaigljjhgaa.Lru
