/- The map of values beside an lru list: each key of the list has its value there. -/
import Derived.Test.YtfmaoaigljjhgaaLruLast0
import Derived.Test.YtfmaoaigljjhgaaLruX
namespace Go.Proofs.Ytfmaoaigljjhgaa.Lru
open Go Go.RowKit Go.Maps Go.Proofs.YtfmaoaigljjhgaaW.PrintWords

abbrev VM : Nat := 37
abbrev IT : Nat := 3
theorem hvm : Try.prog.underlying VM = some (.map KT IT) := Try.underlying37
theorem zeroI (w : World) : (zeroValue IT).run Try.prog w = .ok (.int .i64 0) w := by kernel_rfl
/-- Block mv is a map in which each of L's keys has its value; it has at most n entries. -/
def Vals (w : World) (mv n : Nat) (L : List (ByteArray × Int)) : Prop :=
  ∃ D, w.ownsMap (H := Unit) Try.prog KT (plainElem Try.prog IT) mv n D ∧ ∀ p ∈ L, D.atKey (kl p.1) (.lit (.int .i64 0)) = .lit (.int .i64 p.2)
theorem Vals.sub {w : World} {mv n : Nat} {L M : List (ByteArray × Int)} (h : Vals w mv n L) (hs : ∀ p ∈ M, p ∈ L) : Vals w mv n M := by
  obtain ⟨D, h1, h2⟩ := h
  exact ⟨D, h1, fun p hp => h2 p (hs p hp)⟩
theorem Vals.kept {w w' : World} {mv n : Nat} {L : List (ByteArray × Int)} (h : Vals w mv n L) (hb : w'.heap[mv]? = w.heap[mv]?) : Vals w' mv n L := by
  obtain ⟨D, ⟨es, clock, hh, r⟩, r2⟩ := h
  exact ⟨D, ⟨es, clock, hb.trans hh, r⟩, r2⟩
theorem Vals.lt {w : World} {mv n : Nat} {L : List (ByteArray × Int)} (h : Vals w mv n L) : mv < w.heap.size := by
  obtain ⟨D, h1, _⟩ := h
  exact h1.lt
theorem Vals.made (w : World) : Vals (w.alloc (.map #[] 0)) w.heap.size 0 [] := ⟨.map [], World.ownsMap_made _ _ _ _, fun p hp => by cases hp⟩
theorem Vals.look {w : World} {mv n : Nat} {L : List (ByteArray × Int)} (h : Vals w mv n L) (s : ByteArray) (hs : s.size ≤ maxLen) {x : Int} (hx : (s, x) ∈ L) : (Instr.lookup VM (.map (some mv)) (.string s) false).run Try.prog w = .ok (.int .i64 x) w := by
  obtain ⟨D, h1, h2⟩ := h
  obtain ⟨c, hrun, hat, _⟩ := h1.lookup_int (t := VM) (e := IT) law hvm Try.underlying3 (zeroI w) (key_of hs)
  have h3 := h2 (s, x) hx
  rw [hat] at h3
  injection h3 with h3
  injection h3 with _ h3
  rw [hrun, h3]
theorem Vals.store {w : World} {mv n : Nat} {L : List (ByteArray × Int)} (h : Vals w mv n L) (s : ByteArray) (hs : s.size ≤ maxLen) (v : Int) (hv : (Lit.int .i64 v).wf = true) (hn : n < maxLen) {M : List (ByteArray × Int)} (hM : ∀ p ∈ M, p = (s, v) ∨ (p ∈ L ∧ p.1 ≠ s)) :
    ∃ w', (Instr.mapUpdate VM (.map (some mv)) (.string s) (.int .i64 v)).run Try.prog w = .ok () w' ∧ Vals w' mv (n + 1) M ∧ w.grownBy w' (some mv) ∧ w'.heap.size = w.heap.size := by
  obtain ⟨D, h1, h2⟩ := h
  obtain ⟨w', hrun, h3, h4⟩ := h1.store (t := VM) (e := IT) law hvm hn (key_of hs) (plainElem_int Try.underlying3 hv)
  refine ⟨w', hrun, ⟨_, h3, fun p hp => ?_⟩, h4.grown, by obtain ⟨_, _, _, _, _, rfl⟩ := h4; simp [ChangeMaps.setBlock]⟩
  have hT := h1.tidy law
  rcases hM p hp with rfl | ⟨hp, hne⟩
  · exact atKey_put_same hT.isMap (kl_key s) _ _
  · rw [atKey_put_other (fun e => hne (kl_inj e))]
    exact h2 p hp
end Go.Proofs.Ytfmaoaigljjhgaa.Lru
