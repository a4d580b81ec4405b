/- The chapter's examples, which each law asks first. -/
import Derived.Test.YtfmaoaigljjhgaaLru8
import Derived.Test.YtfmaoaigljjhgaaPLruScriptx1
namespace Go.Proofs.Ytfmaoaigljjhgaa.Lru
open Go Go.RowKit Go.Maps Go.Proofs.YtfmaoaigljjhgaaW.PrintWords

theorem C_lit {w : World} {g : Nat} {xs : List ByteArray} {t : Nat} (h : w.heap[g]? = some (.cells (xs.map Value.string).toArray t (0, 0))) (hl : xs.length ≤ 9223372036854775807) : Kd.C Kd.string w (some ⟨g, 0, none⟩) xs.length xs := by
  refine ⟨rfl, hl, fun _ => ⟨_, rfl, fun j p hj => ⟨[.string p], rfl, rfl, fun i u hu => ?_⟩⟩⟩
  cases i with
  | succ i => simp at hu
  | zero =>
    have hu' : Value.string p = u := by simpa using hu
    subst hu'
    show w.cell? ((⟨g, 0, none⟩ : Addr).add (j * 1 + 0)) = _
    rw [Nat.mul_one, Nat.add_zero]
    have e : (⟨g, 0, none⟩ : Addr).add j = ⟨g, j, none⟩ := by
      unfold Addr.add
      by_cases c : j = 0
      · rw [if_pos c, c]
      · rw [if_neg c, Nat.zero_add]
    rw [e]
    simp [World.cell?, h, hj]
set_option maxHeartbeats 8000000 in
set_option maxRecDepth 100000 in
theorem lives_calls (w : World) : Calls Try.prog 9 #[] w fun e w' => e = .returned (.bool true) ∧ Below w.heap.size w w' := by
  go_enter Try.func9, Try.ntmps9
  go_wp2_with (first
    | (go_at_call 10; (with_reducible refine (oNew (Below.refl w.heap.size w) 2 rfl).mono ?_); rintro e w1 ⟨rfl, h1⟩; have H1 := Aside0.mk h1; clear h1)
    | (go_at_call 11; refine (oPut H1.out (by decide) ⟨#[97]⟩ (by decide) 1 (by decide) (by decide) (M := [(⟨#[97]⟩, 1)]) (o := ⟨#[]⟩) (q := false) (c := 0) (by decide +kernel)).mono ?_; rintro e w2 ⟨rfl, h2⟩; have H2 := Aside0.mk h2; clear h2 H1)
    | (go_at_call 11; refine (oPut H2.out (by decide) ⟨#[98]⟩ (by decide) 2 (by decide) (by decide) (M := [(⟨#[98]⟩, 2), (⟨#[97]⟩, 1)]) (o := ⟨#[]⟩) (q := false) (c := 0) (by decide +kernel)).mono ?_; rintro e w3 ⟨rfl, h3⟩; have H3 := Aside0.mk h3; clear h3 H2)
    | (go_at_call 16; refine (oGet H3.out ⟨#[97]⟩ (by decide) (x := 1) (q := true) (by decide +kernel)).mono ?_; rintro e w4 ⟨rfl, h4⟩; rw [show getL ⟨#[97]⟩ [(⟨#[98]⟩, 2), (⟨#[97]⟩, 1)] = [(⟨#[97]⟩, 1), (⟨#[98]⟩, 2)] by decide +kernel] at h4; have H4 := Aside0.mk h4; clear h4 H3; unfold vl)
    | (go_at_call 11; refine (oPut H4.out (by decide) ⟨#[99]⟩ (by decide) 3 (by decide) (by decide) (M := [(⟨#[99]⟩, 3), (⟨#[97]⟩, 1)]) (o := ⟨#[98]⟩) (q := true) (c := 0) (by decide +kernel)).mono ?_; rintro e w5 ⟨rfl, h5⟩; have H5 := Aside0.mk h5; clear h5 H4)
    | (go_at_call 12; refine (oKeys H5.out (by decide)).mono ?_; rintro e w6 ⟨v6, rfl, hr6, h6, hb6⟩; obtain ⟨A6, c6, rfl, hl6, hC6⟩ := Kd.R_reads hr6; have H6 := Aside0.mk h6; have HC6 := Aside0.mk hC6; have HL6 := Aside0.mk hl6; clear hr6 h6 hb6 hl6 hC6 H5)
    | (go_at_call 13; refine (PLruScript.nameplatekit_Same_string.calls 5 A6 c6 [⟨#[99]⟩, ⟨#[97]⟩] (some ⟨w6.heap.size, 0, none⟩) 2 [⟨#[99]⟩, ⟨#[97]⟩] true _ (Kd.C_alloc HC6.out _) HL6.out (C_lit (Below_new w6 _) (by decide)) (by decide) (by decide +kernel)).mono ?_; rintro e w7 ⟨rfl, n7, rfl⟩))
  go_ret
  obtain ⟨mb, E, h1, h2, h3, h4⟩ := H6.out
  exact ⟨rfl, pw_below_drewN (h4.alloc h4.size _) _⟩
end Go.Proofs.Ytfmaoaigljjhgaa.Lru
