/- What the calls of lru's node methods leave: out and behind, for nodes of one-cell values. -/
import Derived.Test.YtfmaoaigljjhgaaLru0
namespace Go.Proofs.Ytfmaoaigljjhgaa.Lru
open Go Go.RowKit Go.Maps Go.Proofs.YtfmaoaigljjhgaaW.PrintWords

def outW (w : World) (p q : Addr) : World := (w.setCell (fa p 2) (.pointer (some q))).setCell (fa q 3) (.pointer (some p))
def intoW (w : World) (o n f : Addr) : World := (((w.setCell (fa n 3) (.pointer (some o))).setCell (fa n 2) (.pointer (some f))).setCell (fa f 3) (.pointer (some n))).setCell (fa o 2) (.pointer (some n))

set_option maxHeartbeats 4000000 in
set_option maxRecDepth 100000 in
theorem out_calls (w : World) (nb no pb po qb qo : Nat) (h3 : w.cell? ⟨nb, no + 3, none⟩ = some (.pointer (some ⟨pb, po, none⟩))) (h2 : w.cell? ⟨nb, no + 2, none⟩ = some (.pointer (some ⟨qb, qo, none⟩)))
    (hp : ∃ u, w.cell? ⟨pb, po + 2, none⟩ = some u) (hq : ∃ u, w.cell? ⟨qb, qo + 3, none⟩ = some u) (fp : w.frozen? ⟨pb, po + 2, none⟩ = false) (fq : w.frozen? ⟨qb, qo + 3, none⟩ = false) :
    Calls Try.prog 37 #[.pointer (some ⟨nb, no, none⟩)] w fun e w' => (∃ v, e = .returned v) ∧ ∃ nd, w' = (outW w ⟨pb, po, none⟩ ⟨qb, qo, none⟩).drewN nd := by
  obtain ⟨up, hp⟩ := hp
  obtain ⟨uq, hq⟩ := hq
  obtain ⟨uq', hq'⟩ := cell?_setCell_some (w := w) (p := ⟨pb, po + 2, none⟩) (x := .pointer (some ⟨qb, qo, none⟩)) (q := ⟨qb, qo + 3, none⟩) (v := uq) hq
  go_enter Try.func37, Try.ntmps37
  go_wp2
  go_region
  all_goals (go_end0; exact ⟨⟨_, rfl⟩, 1, rfl⟩)
set_option maxHeartbeats 4000000 in
set_option maxRecDepth 100000 in
theorem behind_calls (w : World) (nb no ob oo fb fo : Nat) (h2 : w.cell? ⟨ob, oo + 2, none⟩ = some (.pointer (some ⟨fb, fo, none⟩)))
    (hn2 : ∃ u, w.cell? ⟨nb, no + 2, none⟩ = some u) (hn3 : ∃ u, w.cell? ⟨nb, no + 3, none⟩ = some u) (hf : ∃ u, w.cell? ⟨fb, fo + 3, none⟩ = some u) (hno : nb ≠ ob) (hnf : nb ≠ fb)
    (f2 : w.frozen? ⟨nb, no + 2, none⟩ = false) (f3 : w.frozen? ⟨nb, no + 3, none⟩ = false) (ff : w.frozen? ⟨fb, fo + 3, none⟩ = false) (fo2 : w.frozen? ⟨ob, oo + 2, none⟩ = false) :
    Calls Try.prog 35 #[.pointer (some ⟨nb, no, none⟩), .pointer (some ⟨ob, oo, none⟩)] w fun e w' => (∃ v, e = .returned v) ∧ ∃ nd, w' = (intoW w ⟨ob, oo, none⟩ ⟨nb, no, none⟩ ⟨fb, fo, none⟩).drewN nd := by
  obtain ⟨u2, hn2⟩ := hn2
  obtain ⟨u3, hn3⟩ := hn3
  obtain ⟨uf, hf⟩ := hf
  have ne : ∀ {a b : Nat} {c d : Nat}, nb ≠ b → (⟨nb, c, none⟩ : Addr) ≠ ⟨b, d, none⟩ := fun h e => h (by injection e)
  have k1 : (w.setCell ⟨nb, no + 3, none⟩ (.pointer (some ⟨ob, oo, none⟩))).cell? ⟨nb, no + 2, none⟩ = some u2 := by
    rw [cso (by intro e; injection e with _ e _; omega)]
    exact hn2
  have k2 : ((w.setCell ⟨nb, no + 3, none⟩ (.pointer (some ⟨ob, oo, none⟩))).setCell ⟨nb, no + 2, none⟩ (.pointer (some ⟨fb, fo, none⟩))).cell? ⟨ob, oo + 2, none⟩ = some (.pointer (some ⟨fb, fo, none⟩)) := by
    rw [cso (fun e => hno (by injection e)), cso (fun e => hno (by injection e))]
    exact h2
  have k3 : ((w.setCell ⟨nb, no + 3, none⟩ (.pointer (some ⟨ob, oo, none⟩))).setCell ⟨nb, no + 2, none⟩ (.pointer (some ⟨fb, fo, none⟩))).cell? ⟨fb, fo + 3, none⟩ = some uf := by
    rw [cso (fun e => hnf (by injection e)), cso (fun e => hnf (by injection e))]
    exact hf
  obtain ⟨u4, k4⟩ := cell?_setCell_some (w := (w.setCell ⟨nb, no + 3, none⟩ (.pointer (some ⟨ob, oo, none⟩))).setCell ⟨nb, no + 2, none⟩ (.pointer (some ⟨fb, fo, none⟩))) (p := ⟨fb, fo + 3, none⟩) (x := .pointer (some ⟨nb, no, none⟩)) (q := ⟨ob, oo + 2, none⟩) (v := .pointer (some ⟨fb, fo, none⟩)) k2
  go_enter Try.func35, Try.ntmps35
  go_wp2
  all_goals (go_end0; exact ⟨⟨_, rfl⟩, 0, rfl⟩)
end Go.Proofs.Ytfmaoaigljjhgaa.Lru
