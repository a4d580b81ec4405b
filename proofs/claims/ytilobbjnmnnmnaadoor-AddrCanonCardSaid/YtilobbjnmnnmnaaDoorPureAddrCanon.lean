/- This text proves what the law AddrCanon asks: a text that is read is told in one way, no longer than eight groups; great letters matter not. Condition: the listed variables of Go's library read as they are laid. -/
import Derived.Test.YtilobbjnmnnmnaaDoorOCnx3
import Derived.Laws.Bits64b
import Derived.Test.YtilobbjnmnnmnaaDoorCanon
set_option linter.unusedSimpArgs false
set_option linter.unusedVariables false
namespace Go.Proofs.YtilobbjnmnnmnaaDoor.AddrFns
open Go.RowKit Go.Lib Go.Proofs.YtilobbjnmnnmnaaDoor.OCn Go.Proofs.YtilobbjnmnnmnaaDoor.AddrLib Go.Proofs.YtilobbjnmnnmnaaDoorW.PrintWords Go.Proofs.YtilobbjnmnnmnaaDoorW.PrintLast Go.Proofs.YtilobbjnmnnmnaaDoorW.PrintMore

theorem wr_u64 (n : Int) (h0 : 0 ≤ n) (h1 : n < 18446744073709551616) : IntKind.u64.wrap n = n := by
  simp [IntKind.wrap, IntKind.bits, IntKind.signed]
  omega
theorem wr_u16 (n : Int) : IntKind.u16.wrap n = n % 65536 := by
  simp [IntKind.wrap, IntKind.bits, IntKind.signed]
theorem or_add (n c : Int) (j : Nat) (B : Int) (hB : B = 2 ^ j) (h0 : 0 ≤ n) (h1 : n * B < 18446744073709551616) (c0 : 0 ≤ c) (c1 : c < B) (hs : n * B + c < 18446744073709551616) :
    Go.bits .or .u64 (IntKind.u64.wrap (n * B)) (IntKind.u64.wrap c) = n * B + c := by
  obtain ⟨n, rfl⟩ := Int.eq_ofNat_of_zero_le h0
  obtain ⟨c, rfl⟩ := Int.eq_ofNat_of_zero_le c0
  have hBn : B = ((2 ^ j : Nat) : Int) := by rw [hB]; push_cast; rfl
  have e : (n : Int) * B = ((n * 2 ^ j : Nat) : Int) := by rw [hBn]; push_cast; rfl
  rw [wr_u64 _ (by rw [e]; omega) h1, wr_u64 _ c0 (by rw [e] at hs; omega), e]
  rw [e] at h1 hs
  have hc : c < 2 ^ j := by rw [hBn] at c1; omega
  rw [bits_or_u64_nat (n * 2 ^ j) c (by omega) (by omega), ← Nat.shiftLeft_eq, ← Nat.shiftLeft_add_eq_or_of_lt hc, Nat.shiftLeft_eq]
  push_cast
  rfl
/-! ### Eight groups are a number -/
theorem wrap_small (i : Nat) (h : i < 1000) : wrap64 ((i : Int) + 1) = ((i + 1 : Nat) : Int) := by unfold wrap64; omega
theorem of_step (k : Nat) (l : List Int) (i : Nat) (b : Bool) (hi lo : Int) (h8 : l.length = 8) (hi8 : i < 8) (x : Int) (hx : l.getD i 0 = x) (x0 : 0 ≤ x) (x1 : x < 65536) :
    addr_of.l0 (k + 1) l 8 i b hi lo = if (i : Int) < 4 then addr_of.l0 k l 8 ((i + 1 : Nat) : Int) b (Go.bits .or .u64 (IntKind.u64.wrap (hi * 65536)) (IntKind.u64.wrap x)) lo else addr_of.l0 k l 8 ((i + 1 : Nat) : Int) b hi (Go.bits .or .u64 (IntKind.u64.wrap (lo * 65536)) (IntKind.u64.wrap x)) := by
  have hr : rd l (i : Int) = x := by unfold rd; rw [Int.toNat_natCast, hx]
  rw [addr_of.l0, if_pos (by omega), if_pos (by omega), if_pos (by rw [h8]; omega), hr, wrap_small i (by omega)]
theorem of_eq (k : Nat) (a0 a1 a2 a3 a4 a5 a6 a7 : Int) (h : ∀ x ∈ [a0, a1, a2, a3, a4, a5, a6, a7], 0 ≤ x ∧ x < 65536) :
    addr_of.f (k + 9) [a0, a1, a2, a3, a4, a5, a6, a7] = some (true, ((a0 * 65536 + a1) * 65536 + a2) * 65536 + a3, ((a4 * 65536 + a5) * 65536 + a6) * 65536 + a7) := by
  obtain ⟨l, hl⟩ : ∃ l, l = [a0, a1, a2, a3, a4, a5, a6, a7] := ⟨_, rfl⟩
  have h8 : l.length = 8 := by rw [hl]; rfl
  have b0 := h a0 (by simp); have b1 := h a1 (by simp); have b2 := h a2 (by simp); have b3 := h a3 (by simp); have b4 := h a4 (by simp); have b5 := h a5 (by simp); have b6 := h a6 (by simp); have b7 := h a7 (by simp)
  rw [← hl]
  unfold addr_of.f
  rw [h8]
  have st := fun k i hi8 x hx x0 x1 hh ll => of_step k l i true hh ll h8 hi8 x hx x0 x1
  have z : ∀ x : Int, 0 ≤ x → x < 65536 → Go.bits .or .u64 (IntKind.u64.wrap (0 * 65536)) (IntKind.u64.wrap x) = x := fun x x0 x1 => by
    rw [or_add 0 x 16 65536 (by decide) (by decide) (by decide) x0 x1 (by omega)]; omega
  have orr : ∀ n x : Int, 0 ≤ n → n < 281474976710656 → 0 ≤ x → x < 65536 → Go.bits .or .u64 (IntKind.u64.wrap (n * 65536)) (IntKind.u64.wrap x) = n * 65536 + x := fun n x n0 n1 x0 x1 =>
    or_add n x 16 65536 (by decide) n0 (by omega) x0 x1 (by omega)
  have e0 := st (k + 8) 0 (by decide) a0 (by rw [hl]; rfl) b0.1 b0.2 0 0
  rw [if_pos (by decide), z a0 b0.1 b0.2] at e0
  have e1 := st (k + 7) 1 (by decide) a1 (by rw [hl]; rfl) b1.1 b1.2 a0 0
  rw [if_pos (by decide), orr a0 a1 b0.1 (by omega) b1.1 b1.2] at e1
  have e2 := st (k + 6) 2 (by decide) a2 (by rw [hl]; rfl) b2.1 b2.2 (a0 * 65536 + a1) 0
  rw [if_pos (by decide), orr _ a2 (by omega) (by omega) b2.1 b2.2] at e2
  have e3 := st (k + 5) 3 (by decide) a3 (by rw [hl]; rfl) b3.1 b3.2 ((a0 * 65536 + a1) * 65536 + a2) 0
  rw [if_pos (by decide), orr _ a3 (by omega) (by omega) b3.1 b3.2] at e3
  have e4 := st (k + 4) 4 (by decide) a4 (by rw [hl]; rfl) b4.1 b4.2 (((a0 * 65536 + a1) * 65536 + a2) * 65536 + a3) 0
  rw [if_neg (by decide), z a4 b4.1 b4.2] at e4
  have e5 := st (k + 3) 5 (by decide) a5 (by rw [hl]; rfl) b5.1 b5.2 (((a0 * 65536 + a1) * 65536 + a2) * 65536 + a3) a4
  rw [if_neg (by decide), orr a4 a5 b4.1 (by omega) b5.1 b5.2] at e5
  have e6 := st (k + 2) 6 (by decide) a6 (by rw [hl]; rfl) b6.1 b6.2 (((a0 * 65536 + a1) * 65536 + a2) * 65536 + a3) (a4 * 65536 + a5)
  rw [if_neg (by decide), orr _ a6 (by omega) (by omega) b6.1 b6.2] at e6
  have e7 := st (k + 1) 7 (by decide) a7 (by rw [hl]; rfl) b7.1 b7.2 (((a0 * 65536 + a1) * 65536 + a2) * 65536 + a3) ((a4 * 65536 + a5) * 65536 + a6)
  rw [if_neg (by decide), orr _ a7 (by omega) (by omega) b7.1 b7.2] at e7
  show addr_of.l0 (k + 8 + 1) l 8 ((0 : Nat) : Int) true 0 0 = _
  rw [e0]
  show addr_of.l0 (k + 7 + 1) l 8 ((1 : Nat) : Int) true a0 0 = _
  rw [e1]
  show addr_of.l0 (k + 6 + 1) l 8 ((2 : Nat) : Int) true _ 0 = _
  rw [e2]
  show addr_of.l0 (k + 5 + 1) l 8 ((3 : Nat) : Int) true _ 0 = _
  rw [e3]
  show addr_of.l0 (k + 4 + 1) l 8 ((4 : Nat) : Int) true _ 0 = _
  rw [e4]
  show addr_of.l0 (k + 3 + 1) l 8 ((5 : Nat) : Int) true _ a4 = _
  rw [e5]
  show addr_of.l0 (k + 2 + 1) l 8 ((6 : Nat) : Int) true _ _ = _
  rw [e6]
  show addr_of.l0 (k + 1 + 1) l 8 ((7 : Nat) : Int) true _ _ = _
  rw [e7, addr_of.l0, if_neg (by decide)]
theorem cut_rng (hi lo : Int) : ∀ x ∈ cutL hi lo, 0 ≤ x ∧ x < 65536 := by
  intro x hx
  unfold cutL g16 at hx
  simp only [wr_u16, List.mem_cons, List.not_mem_nil, or_false] at hx
  rcases hx with rfl | rfl | rfl | rfl | rfl | rfl | rfl | rfl <;> omega
theorem of_cut (k : Nat) (hi lo : Int) (h0 : 0 ≤ hi) (h1 : hi < 18446744073709551616) (l0 : 0 ≤ lo) (l1 : lo < 18446744073709551616) : addr_of.f (k + 9) (cutL hi lo) = some (true, hi, lo) := by
  have h := of_eq k (g16 hi 3) (g16 hi 2) (g16 hi 1) (g16 hi 0) (g16 lo 3) (g16 lo 2) (g16 lo 1) (g16 lo 0) (cut_rng hi lo)
  refine h.trans ?_
  unfold g16
  simp only [wr_u16]
  have e1 : ((hi / 281474976710656 % 65536 * 65536 + hi / 4294967296 % 65536) * 65536 + hi / 65536 % 65536) * 65536 + hi % 65536 = hi := by omega
  have e2 : ((lo / 281474976710656 % 65536 * 65536 + lo / 4294967296 % 65536) * 65536 + lo / 65536 % 65536) * 65536 + lo % 65536 = lo := by omega
  rw [e1, e2]
/-! ### The longest run of noughts is one -/
def nought (l : List Int) (a b : Int) : Prop := ∀ j : Nat, a ≤ (j : Int) → (j : Int) < b → l.getD j 0 = 0
theorem zL_ok (l : List Int) : ∀ (t : List Int) (p : Nat) (f n k : Int), l.drop p = t → 0 ≤ f → 0 ≤ n → f + n ≤ p → nought l f (f + n) → 0 ≤ k → k ≤ p → nought l (p - k) p →
    0 ≤ (zL t p f n k).1 ∧ 0 ≤ (zL t p f n k).2 ∧ (zL t p f n k).1 + (zL t p f n k).2 ≤ p + t.length ∧ nought l (zL t p f n k).1 ((zL t p f n k).1 + (zL t p f n k).2) := by
  intro t
  induction t with
  | nil => intro p f n k _ h1 h2 h3 h4 _ _ _; unfold zL; simp only [List.length_nil]; exact ⟨h1, h2, by omega, h4⟩
  | cons x t ih =>
    intro p f n k hd h1 h2 h3 h4 h5 h6 h7
    have hx : l.getD p 0 = x := by
      rw [List.getD_eq_getElem?_getD, ← List.head?_drop, hd]; rfl
    have hd2 : l.drop (p + 1) = t := by rw [← List.drop_drop, hd]; rfl
    have ih := fun f n k => ih (p + 1) f n k hd2
    rw [show ((p + 1 : Nat) : Int) = (p : Int) + 1 by omega] at ih
    unfold zL
    rw [List.length_cons]
    by_cases c : x = 0
    · rw [if_pos c]
      have hn : nought l ((p : Int) - k) (p + 1) := fun j a b => by
        by_cases e : (j : Int) < p
        · exact h7 j a e
        · have : j = p := by omega
          rw [this, hx, c]
      by_cases d : n < k + 1
      · rw [if_pos d]
        have := ih (p + 1 - (k + 1)) (k + 1) (k + 1) (by omega) (by omega) (by omega) (by rw [show ((p : Int) + 1 - (k + 1)) + (k + 1) = p + 1 by omega, show (p : Int) + 1 - (k + 1) = p - k by omega]; exact hn) (by omega) (by omega) (by rw [show (p : Int) + 1 - (k + 1) = p - k by omega]; exact hn)
        exact ⟨this.1, this.2.1, by have := this.2.2.1; omega, this.2.2.2⟩
      · rw [if_neg d]
        have := ih f n (k + 1) h1 h2 (by omega) h4 (by omega) (by omega) (by rw [show (p : Int) + 1 - (k + 1) = p - k by omega]; exact hn)
        exact ⟨this.1, this.2.1, by have := this.2.2.1; omega, this.2.2.2⟩
    · rw [if_neg c, if_neg (by omega)]
      have := ih f n 0 h1 h2 (by omega) h4 (by omega) (by omega) (fun j a b => by omega)
      exact ⟨this.1, this.2.1, by have := this.2.2.1; omega, this.2.2.2⟩
theorem zL_whole (l : List Int) : ∃ f n : Nat, zL l 0 0 0 0 = ((f : Int), (n : Int)) ∧ f + n ≤ l.length ∧ l = l.take f ++ List.replicate n 0 ++ l.drop (f + n) := by
  have h := zL_ok l l 0 0 0 0 rfl (by decide) (by decide) (by decide) (fun j a b => by omega) (by decide) (by decide) (fun j a b => by omega)
  obtain ⟨h1, h2, h3, h4⟩ := h
  obtain ⟨f, hf⟩ := Int.eq_ofNat_of_zero_le h1
  obtain ⟨n, hn⟩ := Int.eq_ofNat_of_zero_le h2
  rw [show ((0 : Nat) : Int) = 0 from rfl] at h1 h2 h3 h4 hf hn
  rw [hf, hn] at h3 h4
  refine ⟨f, n, Prod.ext hf hn, by omega, ?_⟩
  have hr : (l.drop f).take n = List.replicate n 0 := by
    refine List.eq_replicate_iff.2 ⟨by rw [List.length_take, List.length_drop]; omega, fun b hb => ?_⟩
    obtain ⟨i, hi, rfl⟩ := List.getElem_of_mem hb
    rw [List.length_take, List.length_drop] at hi
    have := h4 (f + i) (by omega) (by omega)
    rw [List.getD_eq_getElem?_getD, List.getElem?_eq_getElem (by omega)] at this
    rw [List.getElem_take, List.getElem_drop]
    exact this
  rw [← hr, List.append_assoc, ← List.drop_drop, List.take_append_drop, List.take_append_drop]
end Go.Proofs.YtilobbjnmnnmnaaDoor.AddrFns
set_option linter.unusedSimpArgs false
set_option linter.unusedVariables false
namespace Go.Proofs.YtilobbjnmnnmnaaDoor.AddrFns
open Go.RowKit Go.Lib Go.Proofs.YtilobbjnmnnmnaaDoor.OCn Go.Proofs.YtilobbjnmnnmnaaDoor.AddrLib Go.Proofs.YtilobbjnmnnmnaaDoorW.PrintWords Go.Proofs.YtilobbjnmnnmnaaDoorW.PrintLast Go.Proofs.YtilobbjnmnnmnaaDoorW.PrintMore

/-! ### Base 10 -/
def decL (u : Nat) : List UInt8 :=
  if u < 10 then [UInt8.ofNat (48 + u)] else if u < 100 then [UInt8.ofNat (48 + u / 10), UInt8.ofNat (48 + u % 10)] else [UInt8.ofNat (48 + u / 100), UInt8.ofNat (48 + u / 10 % 10), UInt8.ofNat (48 + u % 10)]
theorem dec_eq (u : Nat) (h : u < 1000) : decDigits u = decL u := by
  have one : ∀ v, v < 10 → decDigits v = [UInt8.ofNat (48 + v)] := fun v hv => by rw [decDigits, dif_pos hv]
  have two : ∀ v, ¬ v < 10 → v < 100 → decDigits v = [UInt8.ofNat (48 + v / 10), UInt8.ofNat (48 + v % 10)] := fun v h1 h2 => by
    rw [decDigits, dif_neg h1, one (v / 10) (by omega)]; rfl
  unfold decL
  by_cases c : u < 10
  · rw [if_pos c, one u c]
  · rw [if_neg c]
    by_cases d : u < 100
    · rw [if_pos d, two u c d]
    · rw [if_neg d, decDigits, dif_neg c, two (u / 10) (by omega) (by omega), show u / 10 / 10 = u / 100 by omega]
      rfl
theorem itoa_eq (x : Int) (h0 : 0 ≤ x) (h1 : x < 1000) : itoa x = decL x.toNat := by
  unfold itoa
  rw [if_neg (by omega), dec_eq _ (by omega)]
def decOk (u : Nat) : Bool := (numP 3 10 (mkB (decL u)) == some ((u : Int), true)) && !(badO ((u : Int), true) (mkB (decL u))) && (decL u).all (fun b => b != 46 && b != 47 && b != 58) && decide (1 ≤ (decL u).length ∧ (decL u).length ≤ 3)
theorem dec_tab : ∀ u : Fin 256, decOk u.val = true := by decide +kernel
theorem dec_fact (u : Nat) (h : u < 256) : numP 3 10 (mkB (decL u)) = some ((u : Int), true) ∧ badO ((u : Int), true) (mkB (decL u)) = false ∧ (46 : UInt8) ∉ decL u ∧ (47 : UInt8) ∉ decL u ∧ (58 : UInt8) ∉ decL u ∧ 1 ≤ (decL u).length ∧ (decL u).length ≤ 3 := by
  have t := dec_tab ⟨u, h⟩
  unfold decOk at t
  simp only [Bool.and_eq_true, beq_iff_eq, Bool.not_eq_true', List.all_eq_true, bne_iff_ne, decide_eq_true_eq] at t
  obtain ⟨⟨⟨t1, t2⟩, t3⟩, t4, t5⟩ := t
  exact ⟨t1, t2, fun hb => (t3 _ hb).1.1 rfl, fun hb => (t3 _ hb).1.2 rfl, fun hb => (t3 _ hb).2 rfl, t4, t5⟩
theorem count_none {c : UInt8} {s : ByteArray} (h : c ∉ s.data.toList) : countB s (oneS c) = 0 := countB_miss s (oneS c) (index1_none h)
theorem elder_none (k : Nat) (s : ByteArray) (hs : s.size ≤ 100000) (h : (46 : UInt8) ∉ s.data.toList) : addr_elder.f k s = some (false, 0, 0, false) := by
  unfold addr_elder.f elderF
  rw [if_pos hs, count_none h, if_neg (by decide)]
theorem whole_step (k : Nat) (l : List Int) (i : Nat) (n x : Int) (h4 : l.length = 4) (hi : i < 4) (hx : l.getD i 0 = x) (x0 : 0 ≤ x) (x1 : x < 256) (n0 : 0 ≤ n) (n1 : n < 16777216) :
    addr_whole.l0 (k + 1) n l 4 i = addr_whole.l0 k (n * 256 + x) l 4 ((i + 1 : Nat) : Int) := by
  have hr : rd l (i : Int) = x := by unfold rd; rw [Int.toNat_natCast, hx]
  rw [addr_whole.l0, if_pos (by omega), if_pos (by omega), if_pos (by rw [h4]; omega), hr, wrap_small i (by omega), or_add n x 8 256 (by decide) n0 (by omega) x0 x1 (by omega)]
theorem four_eq (k : Nat) (a b c d : Int) (ha : 0 ≤ a ∧ a < 256) (hb : 0 ≤ b ∧ b < 256) (hc : 0 ≤ c ∧ c < 256) (hd : 0 ≤ d ∧ d < 256) :
    addr_Four.f (k + 5) a b c d = some (false, 0, ((a * 256 + b) * 256 + c) * 256 + d) := by
  unfold addr_Four.f addr_whole.f
  obtain ⟨l, hl⟩ : ∃ l, l = [a, b, c, d] := ⟨_, rfl⟩
  have h4 : l.length = 4 := by rw [hl]; rfl
  rw [← hl, h4]
  have e0 := whole_step (k + 4) l 0 0 a h4 (by decide) (by rw [hl]; rfl) ha.1 ha.2 (by decide) (by decide)
  rw [show (0 : Int) * 256 + a = a by omega] at e0
  have e1 := whole_step (k + 3) l 1 a b h4 (by decide) (by rw [hl]; rfl) hb.1 hb.2 ha.1 (by omega)
  have e2 := whole_step (k + 2) l 2 (a * 256 + b) c h4 (by decide) (by rw [hl]; rfl) hc.1 hc.2 (by omega) (by omega)
  have e3 := whole_step (k + 1) l 3 ((a * 256 + b) * 256 + c) d h4 (by decide) (by rw [hl]; rfl) hd.1 hd.2 (by omega) (by omega)
  rw [show addr_whole.l0 (k + 5) 0 l ((4 : Nat) : Int) 0 = addr_whole.l0 (k + 4) a l 4 ((0 + 1 : Nat) : Int) from e0, show addr_whole.l0 (k + 4) a l 4 ((0 + 1 : Nat) : Int) = _ from e1, show addr_whole.l0 (k + 3) _ l 4 ((1 + 1 : Nat) : Int) = _ from e2, show addr_whole.l0 (k + 2) _ l 4 ((2 + 1 : Nat) : Int) = _ from e3, addr_whole.l0, if_neg (by decide), Option.bind_some]
/-- A dotted quad is read. -/
theorem elder_quad (k : Nat) (lo : Int) (l0 : 0 ≤ lo) (l1 : lo < 4294967296) :
    (join ((quad lo).map (·.data.toList)) [46]).length ≤ 15 ∧ (47 : UInt8) ∉ join ((quad lo).map (·.data.toList)) [46] ∧ addr_elder.f (k + 5) (mkB (join ((quad lo).map (·.data.toList)) [46])) = some (false, 0, lo, true) := by
  obtain ⟨L, hL⟩ : ∃ L, L = [decL (lo / 16777216 % 256).toNat, decL (lo / 65536 % 256).toNat, decL (lo / 256 % 256).toNat, decL (lo % 256).toNat] := ⟨_, rfl⟩
  have hq : (quad lo).map (·.data.toList) = L := by
    rw [hL]
    unfold quad
    simp only [List.map_cons, List.map_nil, mkB_data]
    rw [itoa_eq _ (by omega) (by omega), itoa_eq _ (by omega) (by omega), itoa_eq _ (by omega) (by omega), itoa_eq _ (by omega) (by omega)]
  rw [hq]
  have fa := dec_fact (lo / 16777216 % 256).toNat (by omega)
  have fb := dec_fact (lo / 65536 % 256).toNat (by omega)
  have fc := dec_fact (lo / 256 % 256).toNat (by omega)
  have fd := dec_fact (lo % 256).toNat (by omega)
  have hno : ∀ x ∈ L, (46 : UInt8) ∉ x ∧ (47 : UInt8) ∉ x := by
    intro x hx
    rw [hL] at hx
    simp only [List.mem_cons, List.not_mem_nil, or_false] at hx
    rcases hx with rfl | rfl | rfl | rfl
    · exact ⟨fa.2.2.1, fa.2.2.2.1⟩
    · exact ⟨fb.2.2.1, fb.2.2.2.1⟩
    · exact ⟨fc.2.2.1, fc.2.2.2.1⟩
    · exact ⟨fd.2.2.1, fd.2.2.2.1⟩
  have hlen : (join L [46]).length ≤ 15 := by
    rw [hL, join_length]
    simp only [lens, List.map_cons, List.map_nil, List.sum_cons, List.sum_nil, List.length_cons, List.length_nil]
    have := fa.2.2.2.2.2.2; have := fb.2.2.2.2.2.2; have := fc.2.2.2.2.2.2; have := fd.2.2.2.2.2.2
    omega
  refine ⟨hlen, ?_, ?_⟩
  · rw [hL] at hno ⊢
    rw [join_cons]
    simp only [joinTail, List.map_cons, List.map_nil, List.flatten_cons, List.flatten_nil, List.mem_append, List.mem_cons, List.not_mem_nil, or_false, not_or]
    exact ⟨fa.2.2.2.1, ⟨by decide, fb.2.2.2.1⟩, ⟨by decide, fc.2.2.2.1⟩, by decide, fd.2.2.2.1⟩
  · have hsp : splitB (oneS 46) 0 (countB (mkB (join L [46])) (oneS 46)) (mkB (join L [46])) = L.map mkB := by
      rw [splitB_list, mkB_data, split_join 46 L (by rw [hL]; simp) (fun x hx => (hno x hx).1)]
    have hcnt := splitB_all (oneS 46) (Nat.le_refl _) 0 _ (mkB (join L [46])) rfl
    rw [hsp, List.length_map, hL, List.length_cons, List.length_cons, List.length_cons, List.length_cons, List.length_nil, ← hL] at hcnt
    unfold addr_elder.f elderF
    rw [if_pos (by rw [mkB_size]; omega), if_pos (by omega), hsp, hL]
    simp only [List.map_cons, List.map_nil]
    have st : ∀ (u : Nat) (t : List ByteArray) (acc : List Int), u < 256 → elderK (addr_Four.f (k + 5)) (mkB (decL u) :: t) acc = elderK (addr_Four.f (k + 5)) t (acc ++ [(u : Int)]) := fun u t acc hu => by
      have f := dec_fact u hu
      rw [elderK, f.1, Option.bind_some, f.2.1, if_neg (by decide)]
    rw [st _ _ _ (by omega), st _ _ _ (by omega), st _ _ _ (by omega), st _ _ _ (by omega)]
    show (addr_Four.f (k + 5) _ _ _ _).bind _ = _
    rw [four_eq k _ _ _ _ ⟨by omega, by omega⟩ ⟨by omega, by omega⟩ ⟨by omega, by omega⟩ ⟨by omega, by omega⟩, Option.bind_some]
    have e : ((((lo / 16777216 % 256).toNat : Int) * 256 + ((lo / 65536 % 256).toNat : Int)) * 256 + ((lo / 256 % 256).toNat : Int)) * 256 + ((lo % 256).toNat : Int) = lo := by
      rw [Int.toNat_of_nonneg (by omega), Int.toNat_of_nonneg (by omega), Int.toNat_of_nonneg (by omega), Int.toNat_of_nonneg (by omega)]
      omega
    simp only
    rw [e]
end Go.Proofs.YtilobbjnmnnmnaaDoor.AddrFns
set_option linter.unusedSimpArgs false
set_option linter.unusedVariables false
namespace Go.Proofs.YtilobbjnmnnmnaaDoor.AddrFns
open Go.RowKit Go.Lib Go.Proofs.YtilobbjnmnnmnaaDoor.OCn Go.Proofs.YtilobbjnmnnmnaaDoor.AddrLib Go.Proofs.YtilobbjnmnnmnaaDoorW.PrintWords Go.Proofs.YtilobbjnmnnmnaaDoorW.PrintLast Go.Proofs.YtilobbjnmnnmnaaDoorW.PrintMore

/-- A group's text. -/
def hx (x : Int) : List UInt8 := hexL x.toNat
def rng (l : List Int) : Prop := ∀ x ∈ l, 0 ≤ x ∧ x < 65536
def tx (l : List Int) : List UInt8 := join (l.map hx) [58]
theorem hx_ok {l : List Int} (h : rng l) : okG (l.map hx) := by
  intro y hy
  obtain ⟨x, hx', rfl⟩ := List.mem_map.1 hy
  have := h x hx'
  refine ⟨fun hb => (hexL_mem (u := x.toNat) (by omega) 58 hb).2.1 rfl, fun e => ?_⟩
  have := (hexL_len x.toNat).1
  unfold hx at e
  rw [e] at this
  exact absurd this (by decide)
theorem joinTail_len (l : List Int) : (joinTail [58] (l.map hx)).length ≤ 5 * l.length := by
  induction l with
  | nil => simp [joinTail]
  | cons x t ih =>
    have := (hexL_len x.toNat).2
    unfold joinTail at ih ⊢
    unfold hx at ih ⊢
    simp only [List.map_cons, List.flatten_cons, List.length_append, List.length_cons, List.length_nil, List.map_map] at ih ⊢
    omega
theorem tx_len (l : List Int) : (tx l).length ≤ 5 * l.length := by
  unfold tx
  cases l with
  | nil => simp [join_nil]
  | cons x t =>
    rw [List.map_cons, join_cons, List.length_append, List.length_cons]
    have := joinTail_len t
    have := (hexL_len x.toNat).2
    unfold hx at *
    omega
/-- Which octets there are: digits of base 16, and colons. -/
theorem tx_mem {l : List Int} (h : rng l) : ∀ b ∈ tx l, b ≠ 46 ∧ b ≠ 47 ∧ b.toNat < 128 := by
  have tail : ∀ t : List Int, rng t → ∀ b ∈ joinTail [58] (t.map hx), b ≠ 46 ∧ b ≠ 47 ∧ b.toNat < 128 := by
    intro t ht b hb
    unfold joinTail at hb
    rw [List.map_map, List.mem_flatten] at hb
    obtain ⟨y, hy, hb⟩ := hb
    obtain ⟨x, hx', rfl⟩ := List.mem_map.1 hy
    have hr := ht x hx'
    simp only [Function.comp, List.mem_append, List.mem_singleton] at hb
    rcases hb with rfl | hb
    · decide
    · have := hexL_mem (u := x.toNat) (by omega) b hb
      exact ⟨this.2.2.1, this.2.2.2.1, this.1⟩
  intro b hb
  unfold tx at hb
  cases l with
  | nil => simp [join_nil] at hb
  | cons x t =>
    rw [List.map_cons, join_cons, List.mem_append] at hb
    rcases hb with hb | hb
    · have hr := h x (by simp)
      have := hexL_mem (u := x.toNat) (by omega) b hb
      exact ⟨this.2.2.1, this.2.2.2.1, this.1⟩
    · exact tail t (fun y hy => h y (by simp [hy])) b hb
/-! ### addr.join -/
theorem rd_nat (l : List Int) (i : Nat) : rd l (i : Int) = l.getD i 0 := by unfold rd; rw [Int.toNat_natCast]
theorem join_loop (l : List Int) (h : rng l) (h8 : l.length ≤ 8) : ∀ (m k i : Nat), i + m = l.length →
    addr_join.l0 (k + m + 1) ((l.take i).map fun x => mkB (hx x)) l (l.length : Int) (i : Int) = some (mkB (tx l)) := by
  intro m
  induction m with
  | zero =>
    intro k i hi
    have e : i = l.length := by omega
    have hd : ((l.map fun x => mkB (hx x)).map fun b => b.data.toList) = l.map hx := by
      rw [List.map_map]
      exact List.map_congr_left fun x _ => mkB_data _
    have ht := tx_len l
    unfold tx at ht
    rw [addr_join.l0, if_neg (by omega), e, List.take_length]
    unfold strings_Join.f
    rw [hd, if_pos ⟨by rw [List.length_map]; omega, by show (join (l.map hx) [58]).length ≤ 100000; omega⟩, Option.bind_some]
    rfl
  | succ m ih =>
    intro k i hi
    have hlt : i < l.length := by omega
    have hr := h (l.getD i 0) (by rw [List.getD_eq_getElem?_getD, List.getElem?_eq_getElem hlt]; exact List.getElem_mem hlt)
    have hg : l.getD i 0 = l[i] := by rw [List.getD_eq_getElem?_getD, List.getElem?_eq_getElem hlt]; rfl
    rw [addr_join.l0, if_pos (by omega), if_pos (by omega), if_pos (by omega), rd_nat, wr_u64 _ hr.1 (by omega)]
    unfold strconv_FormatUint_49.f
    rw [if_pos ⟨rfl, hr.1, by omega⟩, Option.bind_some, if_pos (by rw [List.length_map, List.length_take]; omega), wrap_small i (by omega)]
    have e : ((l.take i).map fun x => mkB (hx x)) ++ [mkB (hexL (l.getD i 0).toNat)] = (l.take (i + 1)).map fun x => mkB (hx x) := by
      rw [List.take_succ_eq_append_getElem hlt, List.map_append, hg]; rfl
    rw [e, show k + (m + 1) = k + m + 1 by omega]
    exact ih k (i + 1) (by omega)
theorem join_eq (k : Nat) (l : List Int) (h : rng l) (h8 : l.length ≤ 8) : addr_join.f (k + 9) l = some (mkB (tx l)) := by
  unfold addr_join.f
  have := join_loop l h h8 l.length (k + (8 - l.length)) 0 (by omega)
  rw [show k + (8 - l.length) + l.length + 1 = k + 9 by omega] at this
  exact this
/-! ### addr.part -/
theorem num_hx {x : Int} (h : 0 ≤ x ∧ x < 65536) : addr_number.f (mkB (hx x)) 4 16 = some (x, true) := by
  unfold addr_number.f
  rw [if_pos ⟨.inr rfl, by decide⟩]
  have := numP_hex (u := x.toNat) (by omega)
  rw [Int.toNat_of_nonneg h.1] at this
  exact this
theorem wrapm (n : Nat) (h : n ≤ 8) : wrap64 ((n : Int) - 1) = (n : Int) - 1 := by unfold wrap64; omega
theorem part_loop (last : Bool) (l : List Int) (h : rng l) (h8 : l.length ≤ 8) : ∀ (m k i : Nat), i + m = l.length →
    addr_part.l0 (k + 2 * m + 1) last (l.take i) (l.map fun x => mkB (hx x)) (l.map fun x => mkB (hx x)) ((l.map fun x => mkB (hx x)).length : Int) (i : Int) = some (l, true) := by
  intro m
  induction m with
  | zero =>
    intro k i hi
    have e : i = l.length := by omega
    rw [addr_part.l0, if_neg (by rw [List.length_map]; omega), e, List.take_length]
  | succ m ih =>
    intro k i hi
    have hlt : i < l.length := by omega
    have hr := h l[i] (List.getElem_mem hlt)
    have hg : rdOf ByteArray.empty (l.map fun x => mkB (hx x)) (i : Int) = mkB (hx l[i]) := by
      unfold rdOf
      rw [Int.toNat_natCast, List.getD_eq_getElem?_getD, List.getElem?_map, List.getElem?_eq_getElem hlt]
      rfl
    have hel := elder_none (k + 2 * (m + 1)) (mkB (hx l[i])) (by rw [mkB_size]; have := (hexL_len l[i].toNat).2; unfold hx; omega) (by rw [mkB_data]; exact fun hb => (hexL_mem (u := l[i].toNat) (by omega) 46 hb).2.2.1 rfl)
    rw [addr_part.l0, if_pos (by rw [List.length_map]; omega), if_pos (by omega), if_pos (by rw [List.length_map]; omega), hg, hel, Option.bind_some, if_neg (by decide), show k + 2 * (m + 1) = k + 2 * m + 1 + 1 by omega, addr_part.j1, if_neg (by decide), num_hx hr, Option.bind_some, if_pos rfl, if_pos (by rw [List.length_take]; omega), wrap_small i (by omega), wr_u16]
    have e : l.take i ++ [l[i] % 65536] = l.take (i + 1) := by
      rw [List.take_succ_eq_append_getElem hlt, show l[i] % 65536 = l[i] by omega]
    rw [e]
    exact ih k (i + 1) (by omega)
theorem toList_ne {l : List UInt8} (h : l ≠ []) : ¬ (mkB l).toList = [] := by
  intro e
  rw [ByteArray.toList_eq, mkB_data] at e
  exact h e
theorem tx_ne {l : List Int} (h : l ≠ []) : tx l ≠ [] := by
  intro e
  cases l with
  | nil => exact h rfl
  | cons x t =>
    unfold tx at e
    rw [List.map_cons, join_cons] at e
    have := (hexL_len x.toNat).1
    have e2 := (List.append_eq_nil_iff.1 e).1
    unfold hx at e2
    rw [e2] at this
    exact absurd this (by decide)
theorem part_eq (k : Nat) (last : Bool) (l : List Int) (h : rng l) (h8 : l.length ≤ 8) : addr_part.f (k + 17) (mkB (tx l)) last = some (l, true) := by
  unfold addr_part.f
  by_cases c : l = []
  · subst c
    rw [if_pos (by rw [ByteArray.toList_eq, mkB_data]; rfl)]
  · rw [if_neg (toList_ne (tx_ne c))]
    have ht := tx_len l
    have hs : strings_Split.f (mkB (tx l)) (⟨#[58]⟩ : ByteArray) = some (l.map fun x => mkB (hx x)) := by
      unfold strings_Split.f
      rw [if_pos ⟨by rw [mkB_size]; omega, rfl⟩]
      rw [show (⟨#[58]⟩ : ByteArray) = oneS 58 from rfl, splitB_list, mkB_data]
      unfold tx
      rw [split_join 58 (l.map hx) (by simpa using c) (fun y hy => (hx_ok h y hy).1), List.map_map]
      rfl
    rw [hs, Option.bind_some]
    have := part_loop last l h h8 l.length (k + 2 * (8 - l.length)) 0 (by omega)
    rw [show k + 2 * (8 - l.length) + 2 * l.length + 1 = k + 17 by omega] at this
    exact this
/-! ### addr.newer -/
theorem rng_take {l : List Int} (h : rng l) (n : Nat) : rng (l.take n) := fun x hx => h x (List.mem_of_mem_take hx)
theorem rng_drop {l : List Int} (h : rng l) (n : Nat) : rng (l.drop n) := fun x hx => h x (List.mem_of_mem_drop hx)
theorem newer_whole (k : Nat) (l : List Int) (h : rng l) (h8 : l.length = 8) : addr_newer.f (k + 17) (mkB (tx l)) = some (l, true) := by
  have ht := tx_len l
  have hc := cut_whole (l.map hx) (hx_ok h)
  change cut (tx l) [58, 58] = (tx l, [], false) at hc
  unfold addr_newer.f newerF
  rw [if_pos (by rw [mkB_size]; omega), mkB_data, hc]
  simp only
  rw [if_neg (by decide), show (!false) = true from rfl, part_eq k true l h (by omega), Option.bind_some, if_neg (show ¬ (true = false) by decide)]
  have hn : addr_part.f (k + 17) (mkB []) true = some ([], true) := part_eq k true [] (fun x hx => by cases hx) (by decide)
  rw [hn, Option.bind_some, if_neg (show ¬ (true = false) by decide)]
  simp only
  rw [if_pos ⟨by omega, by decide⟩, if_neg (by
    rw [h8]
    rintro (⟨e, _⟩ | ⟨_, e⟩)
    · cases e
    · exact e (by decide)), h8]
  simp
theorem newer_gap (k f n : Nat) (l : List Int) (h : rng l) (h8 : l.length = 8) (hfn : f + n ≤ 8) (hn : 1 < n) (hl : l = l.take f ++ List.replicate n 0 ++ l.drop (f + n)) :
    addr_newer.f (k + 17) (mkB (tx (l.take f) ++ 58 :: 58 :: tx (l.drop (f + n)))) = some (l, true) := by
  have ht1 := tx_len (l.take f)
  have ht2 := tx_len (l.drop (f + n))
  have e1 : (l.take f).length = f := by rw [List.length_take]; omega
  have e2 : (l.drop (f + n)).length = 8 - (f + n) := by rw [List.length_drop, h8]
  have hc := cut_gap ((l.take f).map hx) ((l.drop (f + n)).map hx) (hx_ok (rng_take h f))
  change cut (tx (l.take f) ++ 58 :: 58 :: tx (l.drop (f + n))) [58, 58] = (tx (l.take f), tx (l.drop (f + n)), true) at hc
  have hno := contains_no ((l.drop (f + n)).map hx) (hx_ok (rng_drop h (f + n)))
  change contains (tx (l.drop (f + n))) [58, 58] = false at hno
  unfold addr_newer.f newerF
  rw [if_pos (by rw [mkB_size, List.length_append, List.length_cons, List.length_cons]; omega), mkB_data, hc]
  simp only
  rw [hno, if_neg (by decide), show (!true) = false from rfl, part_eq k false _ (rng_take h f) (by omega), Option.bind_some, if_neg (show ¬ (true = false) by decide), part_eq k true _ (rng_drop h (f + n)) (by omega), Option.bind_some, if_neg (show ¬ (true = false) by decide)]
  simp only
  rw [if_pos ⟨by omega, by omega⟩, e1, e2]
  have en : (8 - (f : Int) - ((8 - (f + n) : Nat) : Int)).toNat = n := by omega
  rw [if_neg (by
    rintro (⟨_, e⟩ | ⟨e, _⟩)
    · omega
    · cases e), en]
  exact congrArg some (Prod.ext hl.symm rfl)
/-! ### The whole -/
def ok2 (six : Bool) (hi lo : Int) : Prop := 0 ≤ hi ∧ hi < 18446744073709551616 ∧ 0 ≤ lo ∧ lo < 18446744073709551616 ∧ (six = true ∨ (hi = 0 ∧ lo < 4294967296))
theorem check_ok {six : Bool} {hi lo : Int} (h : ok2 six hi lo) : addr_Check.f six hi lo = some 0 := by
  unfold addr_Check.f
  cases six
  · rcases h.2.2.2.2 with e | ⟨e1, e2⟩
    · cases e
    · rw [if_neg (by decide), if_pos e1, if_pos (by have := h.2.2.1; omega)]
  · rw [if_pos rfl]
theorem has58 {l : List Int} (h : 2 ≤ l.length) : (58 : UInt8) ∈ tx l := by
  match l, h with
  | x :: y :: t, _ =>
    unfold tx
    rw [List.map_cons, List.map_cons, join_cons]
    simp [joinTail]
theorem read_six (k : Nat) (s : List UInt8) (l : List Int) (hi lo : Int) (hs : s.length ≤ 100) (h46 : (46 : UInt8) ∉ s) (h58 : (58 : UInt8) ∈ s) (hn : addr_newer.f (k + 17) (mkB s) = some (l, true)) (ho : addr_of.f (k + 17) l = some (true, hi, lo)) :
    addr_Read.f (k + 17) (mkB s) = some (true, hi, lo, 0) := by
  unfold addr_Read.f
  rw [elder_none (k + 17) (mkB s) (by rw [mkB_size]; omega) (by rw [mkB_data]; exact h46), Option.bind_some, if_neg (by decide)]
  unfold strings_Contains.f
  rw [if_pos (by rw [mkB_size]; omega), Option.bind_some, mkB_data, if_pos (contains_one h58), hn, Option.bind_some, if_pos rfl, ho, Option.bind_some]
/-- An address is read of its text; the text is short, without strokes. -/
theorem read_text (six : Bool) (hi lo : Int) (h : ok2 six hi lo) (k : Nat) : ∃ s : List UInt8, addr_Text.f (k + 17) six hi lo = some (mkB s, 0) ∧ addr_Read.f (k + 17) (mkB s) = some (six, hi, lo, 0) ∧ (47 : UInt8) ∉ s ∧ s.length ≤ 39 := by
  unfold addr_Text.f textF
  rw [check_ok h, Option.bind_some, if_pos rfl]
  obtain ⟨h1, h2, h3, h4, h5⟩ := h
  cases six
  · rcases h5 with e | ⟨e1, e2⟩
    · cases e
    · subst e1
      obtain ⟨q1, q2, q3⟩ := elder_quad (k + 12) lo h3 e2
      rw [if_neg (by decide), if_pos (by omega)]
      refine ⟨_, rfl, ?_, q2, by omega⟩
      unfold addr_Read.f
      rw [show k + 17 = k + 12 + 5 by omega, q3, Option.bind_some, if_pos rfl]
  · rw [if_pos rfl]
    have hr : rng (cutL hi lo) := cut_rng hi lo
    have h8 : (cutL hi lo).length = 8 := rfl
    have hof : addr_of.f (k + 17) (cutL hi lo) = some (true, hi, lo) := of_cut (k + 8) hi lo h1 h2 h3 h4
    obtain ⟨f, n, hz, hfn, hl⟩ := zL_whole (cutL hi lo)
    rw [h8] at hfn
    rw [hz]
    simp only
    by_cases c : 1 < n
    · rw [if_pos (by omega), if_pos ⟨by omega, by omega⟩, Int.toNat_natCast, show ((f : Int) + (n : Int)).toNat = f + n by omega, join_eq (k + 8) _ (rng_take hr f) (by rw [List.length_take]; omega), Option.bind_some, join_eq (k + 8) _ (rng_drop hr (f + n)) (by rw [List.length_drop]; omega), Option.bind_some]
      have t1 := tx_len ((cutL hi lo).take f)
      have t2 := tx_len ((cutL hi lo).drop (f + n))
      rw [List.length_take, h8] at t1
      rw [List.length_drop, h8] at t2
      rw [if_pos ⟨by rw [mkB_size]; omega, by rw [mkB_size]; omega⟩]
      have es : (mkB (tx ((cutL hi lo).take f)) ++ (⟨#[58, 58]⟩ : ByteArray)) ++ mkB (tx ((cutL hi lo).drop (f + n))) = mkB (tx ((cutL hi lo).take f) ++ 58 :: 58 :: tx ((cutL hi lo).drop (f + n))) := by
        rw [← mkB_eta ((mkB (tx ((cutL hi lo).take f)) ++ (⟨#[58, 58]⟩ : ByteArray)) ++ mkB (tx ((cutL hi lo).drop (f + n))))]
        congr 1
        simp [ByteArray.data_append, mkB]
      rw [es]
      have hm : ∀ b ∈ tx ((cutL hi lo).take f) ++ 58 :: 58 :: tx ((cutL hi lo).drop (f + n)), b ≠ 46 ∧ b ≠ 47 := by
        intro b hb
        rw [List.mem_append, List.mem_cons, List.mem_cons] at hb
        rcases hb with hb | rfl | rfl | hb
        · exact ⟨(tx_mem (rng_take hr f) b hb).1, (tx_mem (rng_take hr f) b hb).2.1⟩
        · decide
        · decide
        · exact ⟨(tx_mem (rng_drop hr (f + n)) b hb).1, (tx_mem (rng_drop hr (f + n)) b hb).2.1⟩
      have hlen : (tx ((cutL hi lo).take f) ++ 58 :: 58 :: tx ((cutL hi lo).drop (f + n))).length ≤ 39 := by
        rw [List.length_append, List.length_cons, List.length_cons]; omega
      exact ⟨_, rfl, read_six k _ _ hi lo (by omega) (fun hb => (hm _ hb).1 rfl) (by simp) (newer_gap k f n _ hr h8 hfn c hl) hof, fun hb => (hm _ hb).2 rfl, hlen⟩
    · rw [if_neg (by omega), join_eq (k + 8) _ hr (by omega), Option.bind_some]
      have t1 : (tx (cutL hi lo)).length ≤ 39 := by
        have := joinTail_len ((cutL hi lo).drop 1)
        show (join ((cutL hi lo).map hx) [58]).length ≤ 39
        unfold cutL at this ⊢
        rw [List.map_cons, join_cons, List.length_append]
        simp only [List.drop_succ_cons, List.drop_zero, List.length_cons, List.length_nil] at this
        have h0 := (hexL_len (g16 hi 3).toNat).2
        unfold hx at *
        omega
      exact ⟨_, rfl, read_six k _ _ hi lo (by omega) (fun hb => (tx_mem hr _ hb).1 rfl) (has58 (by rw [h8]; decide)) (newer_whole k _ hr h8) hof, fun hb => (tx_mem hr _ hb).2.1 rfl, t1⟩
end Go.Proofs.YtilobbjnmnnmnaaDoor.AddrFns
set_option linter.unusedSimpArgs false
set_option linter.unusedVariables false
namespace Go.Proofs.YtilobbjnmnnmnaaDoor.AddrFns
open Go.RowKit Go.Lib Go.Proofs.YtilobbjnmnnmnaaDoor.OCn Go.Proofs.YtilobbjnmnnmnaaDoor.AddrLib Go.Proofs.YtilobbjnmnnmnaaDoorW.PrintWords Go.Proofs.YtilobbjnmnnmnaaDoorW.PrintLast Go.Proofs.YtilobbjnmnnmnaaDoorW.PrintMore

/-! ### Great letters -/
def gr (b : UInt8) : UInt8 := if 97 ≤ b.toNat ∧ b.toNat ≤ 102 then b - 32 else b
theorem gr_tab : ∀ c : Fin 256, (decide (gr (UInt8.ofNat c.val) = 58) = decide (UInt8.ofNat c.val = 58)) ∧ (decide (gr (UInt8.ofNat c.val) = 46) = decide (UInt8.ofNat c.val = 46)) ∧ (decide ((gr (UInt8.ofNat c.val)).toNat = 48) = decide (c.val = 48)) ∧ (decide ((gr (UInt8.ofNat c.val)).toNat < 128) = decide (c.val < 128)) ∧ digI ((gr (UInt8.ofNat c.val)).toNat : Int) = digI (c.val : Int) := by decide +kernel
theorem gr_fact (b : UInt8) : (gr b = 58 ↔ b = 58) ∧ (gr b = 46 ↔ b = 46) ∧ ((gr b).toNat = 48 ↔ b.toNat = 48) ∧ ((gr b).toNat < 128 ↔ b.toNat < 128) ∧ digI ((gr b).toNat : Int) = digI (b.toNat : Int) := by
  obtain ⟨h1, h2, h3, h4, h5⟩ := gr_tab ⟨b.toNat, b.toNat_lt⟩
  rw [show UInt8.ofNat (⟨b.toNat, b.toNat_lt⟩ : Fin 256).val = b by simp] at h1 h2 h3 h4 h5
  exact ⟨decide_eq_decide.1 h1, decide_eq_decide.1 h2, decide_eq_decide.1 h3, decide_eq_decide.1 h4, h5⟩
/-- Octets that no great letter comes from. -/
def still (sub : List UInt8) : Prop := ∀ c ∈ sub, ∀ b : UInt8, (c == gr b) = (c == b)
theorem still58 : still [58, 58] ∧ still [58] ∧ still [46] := by
  have e : ∀ b : UInt8, ((58 : UInt8) == gr b) = ((58 : UInt8) == b) := fun b => by
    rw [Bool.eq_iff_iff, beq_iff_eq, beq_iff_eq, eq_comm, (gr_fact b).1, eq_comm]
  have f : ∀ b : UInt8, ((46 : UInt8) == gr b) = ((46 : UInt8) == b) := fun b => by
    rw [Bool.eq_iff_iff, beq_iff_eq, beq_iff_eq, eq_comm, (gr_fact b).2.1, eq_comm]
  refine ⟨?_, ?_, ?_⟩ <;> (intro c hc b; simp only [List.mem_cons, List.not_mem_nil, or_false] at hc; first | (rcases hc with rfl | rfl <;> exact e b) | (subst hc; exact e b) | (subst hc; exact f b))
theorem prefix_gr : ∀ (sub l : List UInt8), still sub → sub.isPrefixOf (l.map gr) = sub.isPrefixOf l
  | [], l, _ => by cases l <;> rfl
  | c :: t, [], _ => rfl
  | c :: t, b :: l, h => by
    rw [List.map_cons, List.isPrefixOf_cons_cons, List.isPrefixOf_cons_cons, h c (by simp) b, prefix_gr t l (fun x hx => h x (by simp [hx]))]
theorem index_gr (sub : List UInt8) (h : still sub) : ∀ l : List UInt8, index (l.map gr) sub = index l sub
  | [] => rfl
  | b :: l => by
    have ih := index_gr sub h l
    have hp := prefix_gr sub (b :: l) h
    rw [List.map_cons] at hp ⊢
    unfold index
    rw [hp, ih]
theorem contains_gr (l sub : List UInt8) (h : still sub) : contains (l.map gr) sub = contains l sub := by
  unfold contains
  rw [index_gr sub h]
theorem cut_gr (l sub : List UInt8) (h : still sub) : cut (l.map gr) sub = ((cut l sub).1.map gr, (cut l sub).2.1.map gr, (cut l sub).2.2) := by
  unfold cut
  rw [index_gr sub h]
  split
  · rw [List.map_take, List.map_drop]
  · rfl
theorem count_gr (sub : List UInt8) (h : still sub) : ∀ (f : Nat) (l : List UInt8), countFrom sub f (l.map gr) = countFrom sub f l
  | 0, _ => rfl
  | f + 1, l => by
    unfold countFrom
    rw [index_gr sub h, ← List.map_drop, count_gr sub h f]
theorem splitK_gr (sub : List UInt8) (h : still sub) : ∀ (k : Nat) (l : List UInt8), splitK sub 0 k (l.map gr) = (splitK sub 0 k l).map (List.map gr)
  | 0, _ => rfl
  | k + 1, l => by
    unfold splitK
    rw [index_gr sub h, ← List.map_drop, splitK_gr sub h k]
    split
    · rfl
    · rw [List.map_cons, List.map_take]
theorem split_gr (l sub : List UInt8) (h : still sub) : split (l.map gr) sub = (split l sub).map (List.map gr) := by
  unfold split count
  rw [List.length_map, count_gr sub h, splitK_gr sub h]
def greatS (s : ByteArray) : ByteArray := mkB (s.data.toList.map gr)
theorem great_mkB (l : List UInt8) : greatS (mkB l) = mkB (l.map gr) := by unfold greatS; rw [mkB_data]
theorem great_data (s : ByteArray) : (greatS s).data.toList = s.data.toList.map gr := mkB_data _
theorem great_size (s : ByteArray) : (greatS s).size = s.size := by unfold greatS; rw [mkB_size, List.length_map, data_length]
theorem great_empty : greatS ByteArray.empty = ByteArray.empty := rfl
theorem great_ascii (s : ByteArray) : ascii (greatS s) = ascii s := by
  unfold ascii
  rw [great_data, List.all_map]
  congr 1
  funext b
  exact decide_eq_decide.2 (gr_fact b).2.2.2.1
theorem great_digs (s : ByteArray) : (bytesOf (greatS s)).map digI = (bytesOf s).map digI := by
  unfold bytesOf
  rw [great_data, List.map_map, List.map_map, List.map_map]
  refine List.map_congr_left fun b _ => ?_
  exact (gr_fact b).2.2.2.2
theorem val_digs (B : Int) (xs : List Int) : valI B xs = (xs.map digI).foldl (fun n d => n * B + d) 0 := by
  unfold valI
  rw [List.foldl_map]
theorem all_digs (B : Int) (xs : List Int) : (∀ x ∈ xs, digI x < B) ↔ ∀ d ∈ xs.map digI, d < B := by
  constructor
  · intro h d hd
    obtain ⟨x, hx, rfl⟩ := List.mem_map.1 hd
    exact h x hx
  · intro h x hx
    exact h _ (List.mem_map_of_mem hx)
theorem numP_great (m B : Int) (s : ByteArray) : numP m B (greatS s) = numP m B s := by
  have hp : (∀ x ∈ bytesOf (greatS s), digI x < B) ↔ (∀ x ∈ bytesOf s, digI x < B) := by rw [all_digs, great_digs, ← all_digs]
  have hv : valI B (bytesOf (greatS s)) = valI B (bytesOf s) := by rw [val_digs, great_digs, ← val_digs]
  unfold numP
  rw [great_size, great_ascii, hv]
  by_cases c : ∀ x ∈ bytesOf s, digI x < B
  · rw [if_pos c, if_pos (hp.2 c)]
  · rw [if_neg c, if_neg (fun e => c (hp.1 e))]
theorem bt_great (s : ByteArray) : decide (bt (greatS s) 0 = 48) = decide (bt s 0 = 48) := by
  rw [bt_rd, bt_rd]
  unfold bytesOf
  rw [great_data]
  cases s.data.toList with
  | nil => rfl
  | cons b l =>
    show decide (((gr b).toNat : Int) = 48) = decide ((b.toNat : Int) = 48)
    have := (gr_fact b).2.2.1
    refine decide_eq_decide.2 ?_
    omega
theorem badO_great (p : Int × Bool) (s : ByteArray) : badO p (greatS s) = badO p s := by
  unfold badO
  rw [great_size, bt_great]
theorem elderK_great (four : Int → Int → Int → Int → Option (Bool × Int × Int)) : ∀ (L : List ByteArray) (acc : List Int), elderK four (L.map greatS) acc = elderK four L acc
  | [], acc => rfl
  | x :: L, acc => by
    rw [List.map_cons, elderK, elderK, numP_great]
    congr 1
    funext p
    rw [badO_great, elderK_great four L]
theorem splitB_great (c : UInt8) (h : still [c]) (s : ByteArray) : splitB (oneS c) 0 (countB (greatS s) (oneS c)) (greatS s) = (splitB (oneS c) 0 (countB s (oneS c)) s).map greatS := by
  rw [splitB_list, splitB_list, great_data, split_gr _ _ h, List.map_map, List.map_map]
  refine List.map_congr_left fun l _ => ?_
  exact (great_mkB l).symm
theorem countB_great (c : UInt8) (h : still [c]) (s : ByteArray) : countB (greatS s) (oneS c) = countB s (oneS c) := by
  have h1 := splitB_all (oneS c) (Nat.le_refl _) 0 _ (greatS s) rfl
  have h2 := splitB_all (oneS c) (Nat.le_refl _) 0 _ s rfl
  rw [splitB_great c h, List.length_map, h2] at h1
  omega
theorem elder_great (k : Nat) (s : ByteArray) : addr_elder.f k (greatS s) = addr_elder.f k s := by
  unfold addr_elder.f elderF
  rw [great_size, splitB_great 46 still58.2.2, countB_great 46 still58.2.2, elderK_great]
theorem number_great (s : ByteArray) (m B : Int) : addr_number.f (greatS s) m B = addr_number.f s m B := by
  unfold addr_number.f
  rw [numP_great]
theorem rd_great (L : List ByteArray) (i : Int) : rdOf ByteArray.empty (L.map greatS) i = greatS (rdOf ByteArray.empty L i) := by
  unfold rdOf
  rw [List.getD_eq_getElem?_getD, List.getD_eq_getElem?_getD, List.getElem?_map]
  cases L[i.toNat]? <;> rfl
theorem part_great_l (last : Bool) (L : List ByteArray) : ∀ k : Nat, (∀ (acc : List Int) (n i : Int), addr_part.l0 k last acc (L.map greatS) (L.map greatS) n i = addr_part.l0 k last acc L L n i) ∧
    (∀ (acc : List Int) (x : ByteArray) (n i : Int) (b c : Bool) (d e : Int), addr_part.j1 k last acc (L.map greatS) (greatS x) (L.map greatS) n i b c d e = addr_part.j1 k last acc L x L n i b c d e)
  | 0 => ⟨fun _ _ _ => rfl, fun _ _ _ _ _ _ _ _ => rfl⟩
  | k + 1 => by
    obtain ⟨ih0, ih1⟩ := part_great_l last L k
    constructor
    · intro acc n i
      rw [addr_part.l0, addr_part.l0]
      simp only [rd_great, elder_great, ih1, List.length_map]
    · intro acc x n i b c d e
      rw [addr_part.j1, addr_part.j1]
      simp only [number_great, ih0]
theorem nil_data {s : ByteArray} : s.toList = ([] : List UInt8) ↔ s.size = 0 := by
  rw [ByteArray.toList_eq, ← data_length]
  exact List.length_eq_zero_iff.symm
theorem part_great (k : Nat) (s : ByteArray) (b : Bool) : addr_part.f k (greatS s) b = addr_part.f k s b := by
  have hs : strings_Split.f (greatS s) (⟨#[58]⟩ : ByteArray) = (strings_Split.f s (⟨#[58]⟩ : ByteArray)).map (List.map greatS) := by
    unfold strings_Split.f
    rw [great_size]
    split
    · have := splitB_great 58 still58.2.1 s
      rw [show oneS 58 = (⟨#[58]⟩ : ByteArray) from rfl] at this
      rw [this]
      rfl
    · rfl
  unfold addr_part.f
  rw [hs]
  by_cases c : s.toList = ([] : List UInt8)
  · rw [if_pos c, if_pos (nil_data.2 (by rw [great_size]; exact nil_data.1 c))]
  · rw [if_neg c, if_neg (fun e => c (nil_data.2 (by have := nil_data.1 e; rw [great_size] at this; exact this)))]
    cases strings_Split.f s (⟨#[58]⟩ : ByteArray) with
    | none => rfl
    | some L =>
      rw [Option.map_some, Option.bind_some, Option.bind_some, List.length_map]
      exact (part_great_l b L k).1 _ _ _
theorem newer_great (k : Nat) (s : ByteArray) : addr_newer.f k (greatS s) = addr_newer.f k s := by
  unfold addr_newer.f newerF
  rw [great_size, great_data, cut_gr _ _ still58.1]
  simp only [contains_gr _ _ still58.1, ← great_mkB, part_great]
theorem read_great (k : Nat) (s : ByteArray) : addr_Read.f k (greatS s) = addr_Read.f k s := by
  have hc : strings_Contains.f (greatS s) (⟨#[58]⟩ : ByteArray) = strings_Contains.f s (⟨#[58]⟩ : ByteArray) := by
    unfold strings_Contains.f
    rw [great_size, great_data, show (⟨#[58]⟩ : ByteArray).data.toList = [58] from rfl, contains_gr _ _ still58.2.1]
  unfold addr_Read.f
  rw [elder_great, newer_great, hc]
end Go.Proofs.YtilobbjnmnnmnaaDoor.AddrFns
set_option linter.unusedSimpArgs false
set_option linter.unusedVariables false
namespace Go.Proofs.YtilobbjnmnnmnaaDoor.AddrFns
open Go.RowKit Go.Lib Go.Proofs.YtilobbjnmnnmnaaDoor.OCn Go.Proofs.YtilobbjnmnnmnaaDoor.AddrLib Go.Proofs.YtilobbjnmnnmnaaDoorW.PrintWords Go.Proofs.YtilobbjnmnnmnaaDoorW.PrintLast Go.Proofs.YtilobbjnmnnmnaaDoorW.PrintMore

theorem numP_tot (m B : Int) (s : ByteArray) : ∃ p, numP m B s = some p := by
  unfold numP
  split
  · exact ⟨_, rfl⟩
  · split <;> exact ⟨_, rfl⟩
theorem elderK_tot (k : Nat) : ∀ (L : List ByteArray) (acc : List Int), (∀ x ∈ acc, 0 ≤ x ∧ x < 256) → acc.length + L.length = 4 →
    ∃ r, elderK (addr_Four.f (k + 5)) L acc = some r ∧ (r = (false, 0, 0, false) ∨ ∃ lo : Int, r = (false, 0, lo, true) ∧ 0 ≤ lo ∧ lo < 4294967296)
  | [], acc, h, hl => by
    match acc, hl with
    | [a, b, c, d], _ =>
      have ha := h a (by simp)
      have hb := h b (by simp)
      have hc := h c (by simp)
      have hd := h d (by simp)
      refine ⟨_, by rw [elderK, four_eq k a b c d ha hb hc hd, Option.bind_some], .inr ⟨((a * 256 + b) * 256 + c) * 256 + d, rfl, by omega, by omega⟩⟩
  | x :: L, acc, h, hl => by
    obtain ⟨p, hp⟩ := numP_tot 3 10 x
    have h0 := numP_nonneg (by omega) (by omega) hp
    rw [elderK, hp, Option.bind_some]
    by_cases c : badO p x = true
    · rw [if_pos c]
      exact ⟨_, rfl, .inl rfl⟩
    · rw [if_neg c]
      have h1 : p.1 ≤ 255 := by
        apply Classical.byContradiction
        intro hn
        apply c
        unfold badO
        rw [decide_eq_true (show p.1 > 255 by omega)]
        simp
      refine elderK_tot k L (acc ++ [p.1]) (fun y hy => ?_) (by rw [List.length_append, List.length_singleton]; simp only [List.length_cons] at hl; omega)
      rcases List.mem_append.1 hy with hy | hy
      · exact h y hy
      · obtain rfl := List.mem_singleton.1 hy
        omega
theorem elder_tot (k : Nat) (s : ByteArray) (hs : s.size ≤ 100000) : ∃ r, addr_elder.f (k + 5) s = some r ∧ (r = (false, 0, 0, false) ∨ ∃ lo : Int, r = (false, 0, lo, true) ∧ 0 ≤ lo ∧ lo < 4294967296) := by
  unfold addr_elder.f elderF
  rw [if_pos hs]
  by_cases c : countB s (oneS 46) + 1 = 4
  · rw [if_pos c]
    refine elderK_tot k _ [] (fun x hx => by cases hx) ?_
    rw [splitB_all (oneS 46) (Nat.le_refl _) 0 _ s rfl, c]
    rfl
  · rw [if_neg c]
    exact ⟨_, rfl, .inl rfl⟩
theorem number_tot (s : ByteArray) : ∃ p, addr_number.f s 4 16 = some p := by
  unfold addr_number.f
  rw [if_pos ⟨.inr rfl, by decide⟩]
  exact numP_tot 4 16 s
theorem rng_nil : rng [] := fun x hx => by cases hx
theorem rng_snoc {acc l : List Int} (h : rng acc) (h2 : rng l) : rng (acc ++ l) := fun x hx => (List.mem_append.1 hx).elim (h x) (h2 x)
theorem rng_wrap (x : Int) : 0 ≤ IntKind.u16.wrap x ∧ IntKind.u16.wrap x < 65536 := by rw [wr_u16]; omega
def good (L : List ByteArray) (r : Option (List Int × Bool)) : Prop := ∃ l ok, r = some (l, ok) ∧ rng l ∧ l.length ≤ L.length + 1
theorem part_j1_tot (last : Bool) (L : List ByteArray) (h200 : L.length ≤ 200) (K : Nat) (acc : List Int) (i : Nat) (hi : i < L.length) (hr : rng acc) (ha : acc.length ≤ i) (x : ByteArray)
    (ih : ∀ acc, rng acc → acc.length ≤ i + 1 → good L (addr_part.l0 K last acc L L (L.length : Int) ((i + 1 : Nat) : Int))) (e b : Bool) (c d : Int) : good L (addr_part.j1 (K + 1) last acc L x L (L.length : Int) (i : Int) e b c d) := by
  rw [addr_part.j1]
  cases e with
  | true =>
    rw [if_pos rfl, Option.bind_some, if_pos (by simp only [List.length_cons, List.length_nil]; omega)]
    refine ⟨_, _, rfl, rng_snoc hr (fun y hy => ?_), by rw [List.length_append]; simp only [List.length_cons, List.length_nil]; omega⟩
    simp only [List.mem_cons, List.not_mem_nil, or_false] at hy
    rcases hy with rfl | rfl <;> exact rng_wrap _
  | false =>
    obtain ⟨p, hp⟩ := number_tot x
    rw [if_neg (by decide), hp, Option.bind_some]
    by_cases c : p.2 = true
    · rw [if_pos c, if_pos (by omega), wrap_small i (by omega)]
      exact ih _ (rng_snoc hr (fun y hy => by obtain rfl := List.mem_singleton.1 hy; exact rng_wrap _)) (by rw [List.length_append, List.length_singleton]; omega)
    · rw [if_neg c]
      exact ⟨_, _, rfl, rng_nil, Nat.zero_le _⟩
theorem part_l0_tot (last : Bool) (L : List ByteArray) (hL : ∀ x ∈ L, x.size ≤ 100000) (h200 : L.length ≤ 200) : ∀ (m k i : Nat) (acc : List Int), i + m = L.length → rng acc → acc.length ≤ i →
    good L (addr_part.l0 (k + 5 + 2 * m + 1) last acc L L (L.length : Int) (i : Int)) := by
  intro m
  induction m with
  | zero =>
    intro k i acc hi hr ha
    rw [addr_part.l0, if_neg (by omega)]
    exact ⟨_, _, rfl, hr, by omega⟩
  | succ m ih =>
    intro k i acc hi hr ha
    have hlt : i < L.length := by omega
    have hx : (rdOf ByteArray.empty L (i : Int)).size ≤ 100000 := by
      unfold rdOf
      rw [Int.toNat_natCast, List.getD_eq_getElem?_getD, List.getElem?_eq_getElem hlt]
      exact hL _ (List.getElem_mem hlt)
    obtain ⟨r, he, _⟩ := elder_tot (k + 2 * m + 2) _ hx
    have hj := part_j1_tot last L h200 (k + 5 + 2 * m + 1) acc i hlt hr ha (rdOf ByteArray.empty L (i : Int)) (fun acc' h1 h2 => ih k (i + 1) acc' (by omega) h1 h2)
    rw [show k + 5 + 2 * (m + 1) + 1 = (k + 2 * m + 2 + 5) + 1 by omega, addr_part.l0, if_pos (by omega), if_pos (by omega), if_pos (by omega), he, Option.bind_some]
    rw [show k + 5 + 2 * m + 1 + 1 = k + 2 * m + 2 + 5 by omega] at hj
    split
    · split <;> exact hj _ _ _ _
    · exact hj _ _ _ _
theorem countFrom_le (sub : List UInt8) : ∀ (f : Nat) (l : List UInt8), countFrom sub f l ≤ f
  | 0, _ => Nat.le_refl _
  | f + 1, l => by
    unfold countFrom
    split
    · exact Nat.zero_le _
    · have := countFrom_le sub f (l.drop ((index l sub).toNat + sub.length))
      omega
theorem splitK_mem (sub : List UInt8) : ∀ (k : Nat) (l : List UInt8), (splitK sub 0 k l).length ≤ k + 1 ∧ ∀ x ∈ splitK sub 0 k l, x.length ≤ l.length
  | 0, l => ⟨Nat.le_refl _, fun x hx => by obtain rfl := List.mem_singleton.1 hx; exact Nat.le_refl _⟩
  | k + 1, l => by
    unfold splitK
    split
    · exact ⟨by simp, fun x hx => by obtain rfl := List.mem_singleton.1 hx; exact Nat.le_refl _⟩
    · obtain ⟨h1, h2⟩ := splitK_mem sub k (l.drop ((index l sub).toNat + sub.length))
      refine ⟨by rw [List.length_cons]; omega, fun x hx => ?_⟩
      rcases List.mem_cons.1 hx with rfl | hx
      · rw [List.length_take]; omega
      · have := h2 x hx
        rw [List.length_drop] at this
        omega
theorem part_tot (s : ByteArray) (hs : s.size ≤ 100) (b : Bool) : ∃ l ok, addr_part.f 400 s b = some (l, ok) ∧ rng l ∧ l.length ≤ 200 := by
  unfold addr_part.f
  by_cases c : s.toList = ([] : List UInt8)
  · rw [if_pos c]
    exact ⟨_, _, rfl, rng_nil, Nat.zero_le _⟩
  · have hsp : strings_Split.f s (⟨#[58]⟩ : ByteArray) = some (splitB (oneS 58) 0 (countB s (oneS 58)) s) := by
      unfold strings_Split.f
      rw [if_pos ⟨by omega, rfl⟩]
      rfl
    rw [if_neg c, hsp, Option.bind_some, splitB_list]
    have hd : s.data.toList.length = s.size := data_length s
    obtain ⟨h1, h2⟩ := splitK_mem [58] (count s.data.toList [58]) s.data.toList
    have hc := countFrom_le [58] (s.data.toList.length + 1) s.data.toList
    have hl : ((split s.data.toList [58]).map mkB).length ≤ 110 := by
      rw [List.length_map]
      unfold split
      unfold count at h1 ⊢
      omega
    generalize hL : (split s.data.toList [58]).map mkB = L at *
    have hm : ∀ x ∈ L, x.size ≤ 100000 := by
      intro x hx
      rw [← hL] at hx
      obtain ⟨y, hy, rfl⟩ := List.mem_map.1 hx
      have := h2 y hy
      rw [mkB_size]
      omega
    have := part_l0_tot b L hm (by omega) L.length (400 - 6 - 2 * L.length) 0 [] (by omega) rng_nil (Nat.zero_le _)
    rw [show 400 - 6 - 2 * L.length + 5 + 2 * L.length + 1 = 400 by omega] at this
    obtain ⟨l, ok, e1, e2, e3⟩ := this
    exact ⟨l, ok, e1, e2, by omega⟩
theorem rng_zeros (n : Nat) : rng (List.replicate n 0) := fun x hx => by
  obtain ⟨_, rfl⟩ := List.mem_replicate.1 hx
  omega
theorem newer_tot (s : ByteArray) (hs : s.size ≤ 100) : ∃ l ok, addr_newer.f 400 s = some (l, ok) ∧ (ok = true → l.length = 8 ∧ rng l) := by
  have hc := cut_sizes s.data.toList [58, 58]
  rw [data_length] at hc
  obtain ⟨p, pk, hp, hp2, hp3⟩ := part_tot (mkB (cut s.data.toList [58, 58]).1) (by rw [mkB_size]; omega) (!(cut s.data.toList [58, 58]).2.2)
  obtain ⟨q, qk, hq, hq2, hq3⟩ := part_tot (mkB (cut s.data.toList [58, 58]).2.1) (by rw [mkB_size]; omega) true
  unfold addr_newer.f newerF
  rw [if_pos (by omega)]
  by_cases c1 : contains (cut s.data.toList [58, 58]).2.1 [58, 58] = true
  · rw [if_pos c1]
    exact ⟨_, _, rfl, fun h => by cases h⟩
  · rw [if_neg c1, hp, Option.bind_some]
    by_cases c2 : pk = false
    · rw [if_pos c2]
      exact ⟨_, _, rfl, fun h => by cases h⟩
    · rw [if_neg c2, hq, Option.bind_some]
      by_cases c3 : qk = false
      · rw [if_pos c3]
        exact ⟨_, _, rfl, fun h => by cases h⟩
      · rw [if_neg c3, if_pos ⟨hp3, hq3⟩]
        split
        · exact ⟨_, _, rfl, fun h => by cases h⟩
        · rename_i c4
          refine ⟨_, _, rfl, fun _ => ⟨?_, rng_snoc (rng_snoc hp2 (rng_zeros _)) hq2⟩⟩
          rw [List.length_append, List.length_append, List.length_replicate]
          have h4 : ¬ ((cut s.data.toList [58, 58]).2.2 = true ∧ 8 - (p.length : Int) - (q.length : Int) < 1) := fun h => c4 (.inl h)
          have h5 : ¬ ((cut s.data.toList [58, 58]).2.2 = false ∧ 8 - (p.length : Int) - (q.length : Int) ≠ 0) := fun h => c4 (.inr h)
          cases hg : (cut s.data.toList [58, 58]).2.2 with
          | true =>
            have : ¬ 8 - (p.length : Int) - (q.length : Int) < 1 := fun h => h4 ⟨hg, h⟩
            show p.length + (8 - (p.length : Int) - (q.length : Int)).toNat + q.length = 8
            omega
          | false =>
            have : ¬ 8 - (p.length : Int) - (q.length : Int) ≠ 0 := fun h => h5 ⟨hg, h⟩
            show p.length + (8 - (p.length : Int) - (q.length : Int)).toNat + q.length = 8
            omega
theorem read_tot (s : ByteArray) (hs : s.size ≤ 100) : ∃ six hi lo e, addr_Read.f 400 s = some (six, hi, lo, e) ∧ ((e = 0 ∧ ok2 six hi lo) ∨ (e = 7 ∧ six = false ∧ hi = 0 ∧ lo = 0)) := by
  obtain ⟨r, he, hr⟩ := elder_tot 395 s (by omega)
  unfold addr_Read.f
  rw [show (400 : Nat) = 395 + 5 from rfl, he, Option.bind_some]
  rcases hr with rfl | ⟨lo, rfl, l0, l1⟩
  · rw [if_neg (by decide)]
    have hc : strings_Contains.f s (⟨#[58]⟩ : ByteArray) = some (contains s.data.toList [58]) := by
      unfold strings_Contains.f
      rw [if_pos (by omega)]
    rw [hc, Option.bind_some]
    by_cases c : contains s.data.toList [58] = true
    · obtain ⟨l, ok, hn, hok⟩ := newer_tot s hs
      rw [if_pos c, show (395 : Nat) + 5 = 400 from rfl, hn, Option.bind_some]
      by_cases c2 : ok = true
      · obtain ⟨h8, hrng⟩ := hok c2
        rw [if_pos c2]
        match l, h8, hrng with
        | [a0, a1, a2, a3, a4, a5, a6, a7], _, hrng =>
          have hof := of_eq 391 a0 a1 a2 a3 a4 a5 a6 a7 hrng
          have b0 := hrng a0 (by simp)
          have b1 := hrng a1 (by simp)
          have b2 := hrng a2 (by simp)
          have b3 := hrng a3 (by simp)
          have b4 := hrng a4 (by simp)
          have b5 := hrng a5 (by simp)
          have b6 := hrng a6 (by simp)
          have b7 := hrng a7 (by simp)
          rw [show (400 : Nat) = 391 + 9 from rfl, hof, Option.bind_some]
          have g1 : 0 ≤ ((a0 * 65536 + a1) * 65536 + a2) * 65536 + a3 ∧ ((a0 * 65536 + a1) * 65536 + a2) * 65536 + a3 < 18446744073709551616 := by omega
          have g2 : 0 ≤ ((a4 * 65536 + a5) * 65536 + a6) * 65536 + a7 ∧ ((a4 * 65536 + a5) * 65536 + a6) * 65536 + a7 < 18446744073709551616 := by omega
          exact ⟨_, _, _, _, rfl, .inl ⟨rfl, g1.1, g1.2, g2.1, g2.2, .inl rfl⟩⟩
      · rw [if_neg c2]
        exact ⟨_, _, _, _, rfl, .inr ⟨rfl, rfl, rfl, rfl⟩⟩
    · rw [if_neg c]
      exact ⟨_, _, _, _, rfl, .inr ⟨rfl, rfl, rfl, rfl⟩⟩
  · rw [if_pos rfl]
    have l2 : lo < 18446744073709551616 := by omega
    exact ⟨_, _, _, _, rfl, .inl ⟨rfl, Int.le_refl 0, (by show (0 : Int) < 18446744073709551616; decide), l0, l2, .inr ⟨rfl, l1⟩⟩⟩
end Go.Proofs.YtilobbjnmnnmnaaDoor.AddrFns
set_option linter.unusedSimpArgs false
set_option linter.unusedVariables false
namespace Go.Proofs.YtilobbjnmnnmnaaDoor.AddrFns
open Go.RowKit Go.Lib Go.Proofs.YtilobbjnmnnmnaaDoor.OCn Go.Proofs.YtilobbjnmnnmnaaDoor.AddrLib Go.Proofs.YtilobbjnmnnmnaaDoorW.PrintWords Go.Proofs.YtilobbjnmnnmnaaDoorW.PrintLast Go.Proofs.YtilobbjnmnnmnaaDoorW.PrintMore

set_option maxRecDepth 20000 in
theorem lives_true : nameplatelaw04_lives.f 400 = some true := by decide +kernel
theorem grI_tab : ∀ c : Fin 256, ((gr (UInt8.ofNat c.val)).toNat : Int) = grI (c.val : Int) := by decide +kernel
theorem grI_gr (b : UInt8) : ((gr b).toNat : Int) = grI (b.toNat : Int) := by
  have := grI_tab ⟨b.toNat, b.toNat_lt⟩
  rw [show UInt8.ofNat (⟨b.toNat, b.toNat_lt⟩ : Fin 256).val = b by simp] at this
  exact this
theorem great_nums (s : ByteArray) : strOfNums ((bytesOf s).map grI) = greatS s := by
  have h : (bytesOf s).map grI = bytesOf (greatS s) := by
    unfold bytesOf
    rw [great_data, List.map_map, List.map_map]
    exact List.map_congr_left fun b _ => (grI_gr b).symm
  rw [h, str_bytesOf]
/-- The law's call, whatever the memory. -/
theorem calls_row (s : ByteArray) (W : World) (hG : G W) (h : s.size ≤ 140737488351232) :
    Calls Tryd.prog 4 #[.string s] W fun e w' => e = .returned (.bool true) ∧ Below W.heap.size W w' := by
  by_cases c : s.size ≤ 100
  · obtain ⟨six, hi, lo, e, hr, ⟨rfl, hok⟩ | ⟨rfl, rfl, rfl, rfl⟩⟩ := read_tot s c
    · obtain ⟨t, t1, t2, _, t4⟩ := read_text six hi lo hok 383
      exact canon_read 400 s (greatS s) (mkB t) (great_nums s) c six hi lo W hG lives_true hr t1 t2 (by rw [read_great]; exact hr) (by rw [mkB_size]; exact t4)
    · exact canon_none 400 s c W hG lives_true hr
  · exact canon_long 400 s (by omega) W hG lives_true
end Go.Proofs.YtilobbjnmnnmnaaDoor.AddrFns
