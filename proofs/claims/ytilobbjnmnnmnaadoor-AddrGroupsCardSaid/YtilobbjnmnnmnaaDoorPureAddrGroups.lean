/- This text proves what the law AddrGroups asks: eight groups with colons between are an address, whatever noughts are ahead of them; its octets are they. Condition: the listed variables of Go's library read as they are laid. -/
import Derived.Test.YtilobbjnmnnmnaaDoorOGrx3
import Derived.Laws.Bits64b
import Derived.Test.YtilobbjnmnnmnaaDoorGroups
set_option linter.unusedSimpArgs false
set_option linter.unusedVariables false
namespace Go.Proofs.YtilobbjnmnnmnaaDoor.AddrFns
open Go.RowKit Go.Lib Go.Proofs.YtilobbjnmnnmnaaDoor.OGr Go.Proofs.YtilobbjnmnnmnaaDoor.AddrLib Go.Proofs.YtilobbjnmnnmnaaDoorW.PrintWords Go.Proofs.YtilobbjnmnnmnaaDoorW.PrintLast Go.Proofs.YtilobbjnmnnmnaaDoorW.PrintMore

theorem wr_u64 (n : Int) (h0 : 0 ≤ n) (h1 : n < 18446744073709551616) : IntKind.u64.wrap n = n := by
  simp [IntKind.wrap, IntKind.bits, IntKind.signed]
  omega
theorem wr_u16 (n : Int) : IntKind.u16.wrap n = n % 65536 := by
  simp [IntKind.wrap, IntKind.bits, IntKind.signed]
theorem or_add (n c : Int) (j : Nat) (B : Int) (hB : B = 2 ^ j) (h0 : 0 ≤ n) (h1 : n * B < 18446744073709551616) (c0 : 0 ≤ c) (c1 : c < B) (hs : n * B + c < 18446744073709551616) :
    Go.bits .or .u64 (IntKind.u64.wrap (n * B)) (IntKind.u64.wrap c) = n * B + c := by
  obtain ⟨n, rfl⟩ := Int.eq_ofNat_of_zero_le h0
  obtain ⟨c, rfl⟩ := Int.eq_ofNat_of_zero_le c0
  have hBn : B = ((2 ^ j : Nat) : Int) := by rw [hB]; push_cast; rfl
  have e : (n : Int) * B = ((n * 2 ^ j : Nat) : Int) := by rw [hBn]; push_cast; rfl
  rw [wr_u64 _ (by rw [e]; omega) h1, wr_u64 _ c0 (by rw [e] at hs; omega), e]
  rw [e] at h1 hs
  have hc : c < 2 ^ j := by rw [hBn] at c1; omega
  rw [bits_or_u64_nat (n * 2 ^ j) c (by omega) (by omega), ← Nat.shiftLeft_eq, ← Nat.shiftLeft_add_eq_or_of_lt hc, Nat.shiftLeft_eq]
  push_cast
  rfl
/-! ### Eight groups are a number -/
theorem wrap_small (i : Nat) (h : i < 1000) : wrap64 ((i : Int) + 1) = ((i + 1 : Nat) : Int) := by unfold wrap64; omega
theorem of_step (k : Nat) (l : List Int) (i : Nat) (b : Bool) (hi lo : Int) (h8 : l.length = 8) (hi8 : i < 8) (x : Int) (hx : l.getD i 0 = x) (x0 : 0 ≤ x) (x1 : x < 65536) :
    addr_of.l0 (k + 1) l 8 i b hi lo = if (i : Int) < 4 then addr_of.l0 k l 8 ((i + 1 : Nat) : Int) b (Go.bits .or .u64 (IntKind.u64.wrap (hi * 65536)) (IntKind.u64.wrap x)) lo else addr_of.l0 k l 8 ((i + 1 : Nat) : Int) b hi (Go.bits .or .u64 (IntKind.u64.wrap (lo * 65536)) (IntKind.u64.wrap x)) := by
  have hr : rd l (i : Int) = x := by unfold rd; rw [Int.toNat_natCast, hx]
  rw [addr_of.l0, if_pos (by omega), if_pos (by omega), if_pos (by rw [h8]; omega), hr, wrap_small i (by omega)]
theorem of_eq (k : Nat) (a0 a1 a2 a3 a4 a5 a6 a7 : Int) (h : ∀ x ∈ [a0, a1, a2, a3, a4, a5, a6, a7], 0 ≤ x ∧ x < 65536) :
    addr_of.f (k + 9) [a0, a1, a2, a3, a4, a5, a6, a7] = some (true, ((a0 * 65536 + a1) * 65536 + a2) * 65536 + a3, ((a4 * 65536 + a5) * 65536 + a6) * 65536 + a7) := by
  obtain ⟨l, hl⟩ : ∃ l, l = [a0, a1, a2, a3, a4, a5, a6, a7] := ⟨_, rfl⟩
  have h8 : l.length = 8 := by rw [hl]; rfl
  have b0 := h a0 (by simp); have b1 := h a1 (by simp); have b2 := h a2 (by simp); have b3 := h a3 (by simp); have b4 := h a4 (by simp); have b5 := h a5 (by simp); have b6 := h a6 (by simp); have b7 := h a7 (by simp)
  rw [← hl]
  unfold addr_of.f
  rw [h8]
  have st := fun k i hi8 x hx x0 x1 hh ll => of_step k l i true hh ll h8 hi8 x hx x0 x1
  have z : ∀ x : Int, 0 ≤ x → x < 65536 → Go.bits .or .u64 (IntKind.u64.wrap (0 * 65536)) (IntKind.u64.wrap x) = x := fun x x0 x1 => by
    rw [or_add 0 x 16 65536 (by decide) (by decide) (by decide) x0 x1 (by omega)]; omega
  have orr : ∀ n x : Int, 0 ≤ n → n < 281474976710656 → 0 ≤ x → x < 65536 → Go.bits .or .u64 (IntKind.u64.wrap (n * 65536)) (IntKind.u64.wrap x) = n * 65536 + x := fun n x n0 n1 x0 x1 =>
    or_add n x 16 65536 (by decide) n0 (by omega) x0 x1 (by omega)
  have e0 := st (k + 8) 0 (by decide) a0 (by rw [hl]; rfl) b0.1 b0.2 0 0
  rw [if_pos (by decide), z a0 b0.1 b0.2] at e0
  have e1 := st (k + 7) 1 (by decide) a1 (by rw [hl]; rfl) b1.1 b1.2 a0 0
  rw [if_pos (by decide), orr a0 a1 b0.1 (by omega) b1.1 b1.2] at e1
  have e2 := st (k + 6) 2 (by decide) a2 (by rw [hl]; rfl) b2.1 b2.2 (a0 * 65536 + a1) 0
  rw [if_pos (by decide), orr _ a2 (by omega) (by omega) b2.1 b2.2] at e2
  have e3 := st (k + 5) 3 (by decide) a3 (by rw [hl]; rfl) b3.1 b3.2 ((a0 * 65536 + a1) * 65536 + a2) 0
  rw [if_pos (by decide), orr _ a3 (by omega) (by omega) b3.1 b3.2] at e3
  have e4 := st (k + 4) 4 (by decide) a4 (by rw [hl]; rfl) b4.1 b4.2 (((a0 * 65536 + a1) * 65536 + a2) * 65536 + a3) 0
  rw [if_neg (by decide), z a4 b4.1 b4.2] at e4
  have e5 := st (k + 3) 5 (by decide) a5 (by rw [hl]; rfl) b5.1 b5.2 (((a0 * 65536 + a1) * 65536 + a2) * 65536 + a3) a4
  rw [if_neg (by decide), orr a4 a5 b4.1 (by omega) b5.1 b5.2] at e5
  have e6 := st (k + 2) 6 (by decide) a6 (by rw [hl]; rfl) b6.1 b6.2 (((a0 * 65536 + a1) * 65536 + a2) * 65536 + a3) (a4 * 65536 + a5)
  rw [if_neg (by decide), orr _ a6 (by omega) (by omega) b6.1 b6.2] at e6
  have e7 := st (k + 1) 7 (by decide) a7 (by rw [hl]; rfl) b7.1 b7.2 (((a0 * 65536 + a1) * 65536 + a2) * 65536 + a3) ((a4 * 65536 + a5) * 65536 + a6)
  rw [if_neg (by decide), orr _ a7 (by omega) (by omega) b7.1 b7.2] at e7
  show addr_of.l0 (k + 8 + 1) l 8 ((0 : Nat) : Int) true 0 0 = _
  rw [e0]
  show addr_of.l0 (k + 7 + 1) l 8 ((1 : Nat) : Int) true a0 0 = _
  rw [e1]
  show addr_of.l0 (k + 6 + 1) l 8 ((2 : Nat) : Int) true _ 0 = _
  rw [e2]
  show addr_of.l0 (k + 5 + 1) l 8 ((3 : Nat) : Int) true _ 0 = _
  rw [e3]
  show addr_of.l0 (k + 4 + 1) l 8 ((4 : Nat) : Int) true _ 0 = _
  rw [e4]
  show addr_of.l0 (k + 3 + 1) l 8 ((5 : Nat) : Int) true _ a4 = _
  rw [e5]
  show addr_of.l0 (k + 2 + 1) l 8 ((6 : Nat) : Int) true _ _ = _
  rw [e6]
  show addr_of.l0 (k + 1 + 1) l 8 ((7 : Nat) : Int) true _ _ = _
  rw [e7, addr_of.l0, if_neg (by decide)]
theorem cut_rng (hi lo : Int) : ∀ x ∈ cutL hi lo, 0 ≤ x ∧ x < 65536 := by
  intro x hx
  unfold cutL g16 at hx
  simp only [wr_u16, List.mem_cons, List.not_mem_nil, or_false] at hx
  rcases hx with rfl | rfl | rfl | rfl | rfl | rfl | rfl | rfl <;> omega
theorem of_cut (k : Nat) (hi lo : Int) (h0 : 0 ≤ hi) (h1 : hi < 18446744073709551616) (l0 : 0 ≤ lo) (l1 : lo < 18446744073709551616) : addr_of.f (k + 9) (cutL hi lo) = some (true, hi, lo) := by
  have h := of_eq k (g16 hi 3) (g16 hi 2) (g16 hi 1) (g16 hi 0) (g16 lo 3) (g16 lo 2) (g16 lo 1) (g16 lo 0) (cut_rng hi lo)
  refine h.trans ?_
  unfold g16
  simp only [wr_u16]
  have e1 : ((hi / 281474976710656 % 65536 * 65536 + hi / 4294967296 % 65536) * 65536 + hi / 65536 % 65536) * 65536 + hi % 65536 = hi := by omega
  have e2 : ((lo / 281474976710656 % 65536 * 65536 + lo / 4294967296 % 65536) * 65536 + lo / 65536 % 65536) * 65536 + lo % 65536 = lo := by omega
  rw [e1, e2]
/-! ### The longest run of noughts is one -/
def nought (l : List Int) (a b : Int) : Prop := ∀ j : Nat, a ≤ (j : Int) → (j : Int) < b → l.getD j 0 = 0
theorem zL_ok (l : List Int) : ∀ (t : List Int) (p : Nat) (f n k : Int), l.drop p = t → 0 ≤ f → 0 ≤ n → f + n ≤ p → nought l f (f + n) → 0 ≤ k → k ≤ p → nought l (p - k) p →
    0 ≤ (zL t p f n k).1 ∧ 0 ≤ (zL t p f n k).2 ∧ (zL t p f n k).1 + (zL t p f n k).2 ≤ p + t.length ∧ nought l (zL t p f n k).1 ((zL t p f n k).1 + (zL t p f n k).2) := by
  intro t
  induction t with
  | nil => intro p f n k _ h1 h2 h3 h4 _ _ _; unfold zL; simp only [List.length_nil]; exact ⟨h1, h2, by omega, h4⟩
  | cons x t ih =>
    intro p f n k hd h1 h2 h3 h4 h5 h6 h7
    have hx : l.getD p 0 = x := by
      rw [List.getD_eq_getElem?_getD, ← List.head?_drop, hd]; rfl
    have hd2 : l.drop (p + 1) = t := by rw [← List.drop_drop, hd]; rfl
    have ih := fun f n k => ih (p + 1) f n k hd2
    rw [show ((p + 1 : Nat) : Int) = (p : Int) + 1 by omega] at ih
    unfold zL
    rw [List.length_cons]
    by_cases c : x = 0
    · rw [if_pos c]
      have hn : nought l ((p : Int) - k) (p + 1) := fun j a b => by
        by_cases e : (j : Int) < p
        · exact h7 j a e
        · have : j = p := by omega
          rw [this, hx, c]
      by_cases d : n < k + 1
      · rw [if_pos d]
        have := ih (p + 1 - (k + 1)) (k + 1) (k + 1) (by omega) (by omega) (by omega) (by rw [show ((p : Int) + 1 - (k + 1)) + (k + 1) = p + 1 by omega, show (p : Int) + 1 - (k + 1) = p - k by omega]; exact hn) (by omega) (by omega) (by rw [show (p : Int) + 1 - (k + 1) = p - k by omega]; exact hn)
        exact ⟨this.1, this.2.1, by have := this.2.2.1; omega, this.2.2.2⟩
      · rw [if_neg d]
        have := ih f n (k + 1) h1 h2 (by omega) h4 (by omega) (by omega) (by rw [show (p : Int) + 1 - (k + 1) = p - k by omega]; exact hn)
        exact ⟨this.1, this.2.1, by have := this.2.2.1; omega, this.2.2.2⟩
    · rw [if_neg c, if_neg (by omega)]
      have := ih f n 0 h1 h2 (by omega) h4 (by omega) (by omega) (fun j a b => by omega)
      exact ⟨this.1, this.2.1, by have := this.2.2.1; omega, this.2.2.2⟩
theorem zL_whole (l : List Int) : ∃ f n : Nat, zL l 0 0 0 0 = ((f : Int), (n : Int)) ∧ f + n ≤ l.length ∧ l = l.take f ++ List.replicate n 0 ++ l.drop (f + n) := by
  have h := zL_ok l l 0 0 0 0 rfl (by decide) (by decide) (by decide) (fun j a b => by omega) (by decide) (by decide) (fun j a b => by omega)
  obtain ⟨h1, h2, h3, h4⟩ := h
  obtain ⟨f, hf⟩ := Int.eq_ofNat_of_zero_le h1
  obtain ⟨n, hn⟩ := Int.eq_ofNat_of_zero_le h2
  rw [show ((0 : Nat) : Int) = 0 from rfl] at h1 h2 h3 h4 hf hn
  rw [hf, hn] at h3 h4
  refine ⟨f, n, Prod.ext hf hn, by omega, ?_⟩
  have hr : (l.drop f).take n = List.replicate n 0 := by
    refine List.eq_replicate_iff.2 ⟨by rw [List.length_take, List.length_drop]; omega, fun b hb => ?_⟩
    obtain ⟨i, hi, rfl⟩ := List.getElem_of_mem hb
    rw [List.length_take, List.length_drop] at hi
    have := h4 (f + i) (by omega) (by omega)
    rw [List.getD_eq_getElem?_getD, List.getElem?_eq_getElem (by omega)] at this
    rw [List.getElem_take, List.getElem_drop]
    exact this
  rw [← hr, List.append_assoc, ← List.drop_drop, List.take_append_drop, List.take_append_drop]
end Go.Proofs.YtilobbjnmnnmnaaDoor.AddrFns
set_option linter.unusedSimpArgs false
set_option linter.unusedVariables false
namespace Go.Proofs.YtilobbjnmnnmnaaDoor.AddrFns
open Go.RowKit Go.Lib Go.Proofs.YtilobbjnmnnmnaaDoor.OGr Go.Proofs.YtilobbjnmnnmnaaDoor.AddrLib Go.Proofs.YtilobbjnmnnmnaaDoorW.PrintWords Go.Proofs.YtilobbjnmnnmnaaDoorW.PrintLast Go.Proofs.YtilobbjnmnnmnaaDoorW.PrintMore

/-! ### Base 10 -/
def decL (u : Nat) : List UInt8 :=
  if u < 10 then [UInt8.ofNat (48 + u)] else if u < 100 then [UInt8.ofNat (48 + u / 10), UInt8.ofNat (48 + u % 10)] else [UInt8.ofNat (48 + u / 100), UInt8.ofNat (48 + u / 10 % 10), UInt8.ofNat (48 + u % 10)]
theorem dec_eq (u : Nat) (h : u < 1000) : decDigits u = decL u := by
  have one : ∀ v, v < 10 → decDigits v = [UInt8.ofNat (48 + v)] := fun v hv => by rw [decDigits, dif_pos hv]
  have two : ∀ v, ¬ v < 10 → v < 100 → decDigits v = [UInt8.ofNat (48 + v / 10), UInt8.ofNat (48 + v % 10)] := fun v h1 h2 => by
    rw [decDigits, dif_neg h1, one (v / 10) (by omega)]; rfl
  unfold decL
  by_cases c : u < 10
  · rw [if_pos c, one u c]
  · rw [if_neg c]
    by_cases d : u < 100
    · rw [if_pos d, two u c d]
    · rw [if_neg d, decDigits, dif_neg c, two (u / 10) (by omega) (by omega), show u / 10 / 10 = u / 100 by omega]
      rfl
theorem itoa_eq (x : Int) (h0 : 0 ≤ x) (h1 : x < 1000) : itoa x = decL x.toNat := by
  unfold itoa
  rw [if_neg (by omega), dec_eq _ (by omega)]
def decOk (u : Nat) : Bool := (numP 3 10 (mkB (decL u)) == some ((u : Int), true)) && !(badO ((u : Int), true) (mkB (decL u))) && (decL u).all (fun b => b != 46 && b != 47 && b != 58) && decide (1 ≤ (decL u).length ∧ (decL u).length ≤ 3)
theorem dec_tab : ∀ u : Fin 256, decOk u.val = true := by decide +kernel
theorem dec_fact (u : Nat) (h : u < 256) : numP 3 10 (mkB (decL u)) = some ((u : Int), true) ∧ badO ((u : Int), true) (mkB (decL u)) = false ∧ (46 : UInt8) ∉ decL u ∧ (47 : UInt8) ∉ decL u ∧ (58 : UInt8) ∉ decL u ∧ 1 ≤ (decL u).length ∧ (decL u).length ≤ 3 := by
  have t := dec_tab ⟨u, h⟩
  unfold decOk at t
  simp only [Bool.and_eq_true, beq_iff_eq, Bool.not_eq_true', List.all_eq_true, bne_iff_ne, decide_eq_true_eq] at t
  obtain ⟨⟨⟨t1, t2⟩, t3⟩, t4, t5⟩ := t
  exact ⟨t1, t2, fun hb => (t3 _ hb).1.1 rfl, fun hb => (t3 _ hb).1.2 rfl, fun hb => (t3 _ hb).2 rfl, t4, t5⟩
theorem count_none {c : UInt8} {s : ByteArray} (h : c ∉ s.data.toList) : countB s (oneS c) = 0 := countB_miss s (oneS c) (index1_none h)
theorem elder_none (k : Nat) (s : ByteArray) (hs : s.size ≤ 100000) (h : (46 : UInt8) ∉ s.data.toList) : addr_elder.f k s = some (false, 0, 0, false) := by
  unfold addr_elder.f elderF
  rw [if_pos hs, count_none h, if_neg (by decide)]
theorem whole_step (k : Nat) (l : List Int) (i : Nat) (n x : Int) (h4 : l.length = 4) (hi : i < 4) (hx : l.getD i 0 = x) (x0 : 0 ≤ x) (x1 : x < 256) (n0 : 0 ≤ n) (n1 : n < 16777216) :
    addr_whole.l0 (k + 1) n l 4 i = addr_whole.l0 k (n * 256 + x) l 4 ((i + 1 : Nat) : Int) := by
  have hr : rd l (i : Int) = x := by unfold rd; rw [Int.toNat_natCast, hx]
  rw [addr_whole.l0, if_pos (by omega), if_pos (by omega), if_pos (by rw [h4]; omega), hr, wrap_small i (by omega), or_add n x 8 256 (by decide) n0 (by omega) x0 x1 (by omega)]
theorem four_eq (k : Nat) (a b c d : Int) (ha : 0 ≤ a ∧ a < 256) (hb : 0 ≤ b ∧ b < 256) (hc : 0 ≤ c ∧ c < 256) (hd : 0 ≤ d ∧ d < 256) :
    addr_Four.f (k + 5) a b c d = some (false, 0, ((a * 256 + b) * 256 + c) * 256 + d) := by
  unfold addr_Four.f addr_whole.f
  obtain ⟨l, hl⟩ : ∃ l, l = [a, b, c, d] := ⟨_, rfl⟩
  have h4 : l.length = 4 := by rw [hl]; rfl
  rw [← hl, h4]
  have e0 := whole_step (k + 4) l 0 0 a h4 (by decide) (by rw [hl]; rfl) ha.1 ha.2 (by decide) (by decide)
  rw [show (0 : Int) * 256 + a = a by omega] at e0
  have e1 := whole_step (k + 3) l 1 a b h4 (by decide) (by rw [hl]; rfl) hb.1 hb.2 ha.1 (by omega)
  have e2 := whole_step (k + 2) l 2 (a * 256 + b) c h4 (by decide) (by rw [hl]; rfl) hc.1 hc.2 (by omega) (by omega)
  have e3 := whole_step (k + 1) l 3 ((a * 256 + b) * 256 + c) d h4 (by decide) (by rw [hl]; rfl) hd.1 hd.2 (by omega) (by omega)
  rw [show addr_whole.l0 (k + 5) 0 l ((4 : Nat) : Int) 0 = addr_whole.l0 (k + 4) a l 4 ((0 + 1 : Nat) : Int) from e0, show addr_whole.l0 (k + 4) a l 4 ((0 + 1 : Nat) : Int) = _ from e1, show addr_whole.l0 (k + 3) _ l 4 ((1 + 1 : Nat) : Int) = _ from e2, show addr_whole.l0 (k + 2) _ l 4 ((2 + 1 : Nat) : Int) = _ from e3, addr_whole.l0, if_neg (by decide), Option.bind_some]
/-- A dotted quad is read. -/
theorem elder_quad (k : Nat) (lo : Int) (l0 : 0 ≤ lo) (l1 : lo < 4294967296) :
    (join ((quad lo).map (·.data.toList)) [46]).length ≤ 15 ∧ (47 : UInt8) ∉ join ((quad lo).map (·.data.toList)) [46] ∧ addr_elder.f (k + 5) (mkB (join ((quad lo).map (·.data.toList)) [46])) = some (false, 0, lo, true) := by
  obtain ⟨L, hL⟩ : ∃ L, L = [decL (lo / 16777216 % 256).toNat, decL (lo / 65536 % 256).toNat, decL (lo / 256 % 256).toNat, decL (lo % 256).toNat] := ⟨_, rfl⟩
  have hq : (quad lo).map (·.data.toList) = L := by
    rw [hL]
    unfold quad
    simp only [List.map_cons, List.map_nil, mkB_data]
    rw [itoa_eq _ (by omega) (by omega), itoa_eq _ (by omega) (by omega), itoa_eq _ (by omega) (by omega), itoa_eq _ (by omega) (by omega)]
  rw [hq]
  have fa := dec_fact (lo / 16777216 % 256).toNat (by omega)
  have fb := dec_fact (lo / 65536 % 256).toNat (by omega)
  have fc := dec_fact (lo / 256 % 256).toNat (by omega)
  have fd := dec_fact (lo % 256).toNat (by omega)
  have hno : ∀ x ∈ L, (46 : UInt8) ∉ x ∧ (47 : UInt8) ∉ x := by
    intro x hx
    rw [hL] at hx
    simp only [List.mem_cons, List.not_mem_nil, or_false] at hx
    rcases hx with rfl | rfl | rfl | rfl
    · exact ⟨fa.2.2.1, fa.2.2.2.1⟩
    · exact ⟨fb.2.2.1, fb.2.2.2.1⟩
    · exact ⟨fc.2.2.1, fc.2.2.2.1⟩
    · exact ⟨fd.2.2.1, fd.2.2.2.1⟩
  have hlen : (join L [46]).length ≤ 15 := by
    rw [hL, join_length]
    simp only [lens, List.map_cons, List.map_nil, List.sum_cons, List.sum_nil, List.length_cons, List.length_nil]
    have := fa.2.2.2.2.2.2; have := fb.2.2.2.2.2.2; have := fc.2.2.2.2.2.2; have := fd.2.2.2.2.2.2
    omega
  refine ⟨hlen, ?_, ?_⟩
  · rw [hL] at hno ⊢
    rw [join_cons]
    simp only [joinTail, List.map_cons, List.map_nil, List.flatten_cons, List.flatten_nil, List.mem_append, List.mem_cons, List.not_mem_nil, or_false, not_or]
    exact ⟨fa.2.2.2.1, ⟨by decide, fb.2.2.2.1⟩, ⟨by decide, fc.2.2.2.1⟩, by decide, fd.2.2.2.1⟩
  · have hsp : splitB (oneS 46) 0 (countB (mkB (join L [46])) (oneS 46)) (mkB (join L [46])) = L.map mkB := by
      rw [splitB_list, mkB_data, split_join 46 L (by rw [hL]; simp) (fun x hx => (hno x hx).1)]
    have hcnt := splitB_all (oneS 46) (Nat.le_refl _) 0 _ (mkB (join L [46])) rfl
    rw [hsp, List.length_map, hL, List.length_cons, List.length_cons, List.length_cons, List.length_cons, List.length_nil, ← hL] at hcnt
    unfold addr_elder.f elderF
    rw [if_pos (by rw [mkB_size]; omega), if_pos (by omega), hsp, hL]
    simp only [List.map_cons, List.map_nil]
    have st : ∀ (u : Nat) (t : List ByteArray) (acc : List Int), u < 256 → elderK (addr_Four.f (k + 5)) (mkB (decL u) :: t) acc = elderK (addr_Four.f (k + 5)) t (acc ++ [(u : Int)]) := fun u t acc hu => by
      have f := dec_fact u hu
      rw [elderK, f.1, Option.bind_some, f.2.1, if_neg (by decide)]
    rw [st _ _ _ (by omega), st _ _ _ (by omega), st _ _ _ (by omega), st _ _ _ (by omega)]
    show (addr_Four.f (k + 5) _ _ _ _).bind _ = _
    rw [four_eq k _ _ _ _ ⟨by omega, by omega⟩ ⟨by omega, by omega⟩ ⟨by omega, by omega⟩ ⟨by omega, by omega⟩, Option.bind_some]
    have e : ((((lo / 16777216 % 256).toNat : Int) * 256 + ((lo / 65536 % 256).toNat : Int)) * 256 + ((lo / 256 % 256).toNat : Int)) * 256 + ((lo % 256).toNat : Int) = lo := by
      rw [Int.toNat_of_nonneg (by omega), Int.toNat_of_nonneg (by omega), Int.toNat_of_nonneg (by omega), Int.toNat_of_nonneg (by omega)]
      omega
    simp only
    rw [e]
end Go.Proofs.YtilobbjnmnnmnaaDoor.AddrFns
set_option linter.unusedSimpArgs false
set_option linter.unusedVariables false
namespace Go.Proofs.YtilobbjnmnnmnaaDoor.AddrFns
open Go.RowKit Go.Lib Go.Proofs.YtilobbjnmnnmnaaDoor.OGr Go.Proofs.YtilobbjnmnnmnaaDoor.AddrLib Go.Proofs.YtilobbjnmnnmnaaDoorW.PrintWords Go.Proofs.YtilobbjnmnnmnaaDoorW.PrintLast Go.Proofs.YtilobbjnmnnmnaaDoorW.PrintMore

/-- A group's text. -/
def hx (x : Int) : List UInt8 := hexL x.toNat
def rng (l : List Int) : Prop := ∀ x ∈ l, 0 ≤ x ∧ x < 65536
def tx (l : List Int) : List UInt8 := join (l.map hx) [58]
theorem hx_ok {l : List Int} (h : rng l) : okG (l.map hx) := by
  intro y hy
  obtain ⟨x, hx', rfl⟩ := List.mem_map.1 hy
  have := h x hx'
  refine ⟨fun hb => (hexL_mem (u := x.toNat) (by omega) 58 hb).2.1 rfl, fun e => ?_⟩
  have := (hexL_len x.toNat).1
  unfold hx at e
  rw [e] at this
  exact absurd this (by decide)
theorem joinTail_len (l : List Int) : (joinTail [58] (l.map hx)).length ≤ 5 * l.length := by
  induction l with
  | nil => simp [joinTail]
  | cons x t ih =>
    have := (hexL_len x.toNat).2
    unfold joinTail at ih ⊢
    unfold hx at ih ⊢
    simp only [List.map_cons, List.flatten_cons, List.length_append, List.length_cons, List.length_nil, List.map_map] at ih ⊢
    omega
theorem tx_len (l : List Int) : (tx l).length ≤ 5 * l.length := by
  unfold tx
  cases l with
  | nil => simp [join_nil]
  | cons x t =>
    rw [List.map_cons, join_cons, List.length_append, List.length_cons]
    have := joinTail_len t
    have := (hexL_len x.toNat).2
    unfold hx at *
    omega
/-- Which octets there are: digits of base 16, and colons. -/
theorem tx_mem {l : List Int} (h : rng l) : ∀ b ∈ tx l, b ≠ 46 ∧ b ≠ 47 ∧ b.toNat < 128 := by
  have tail : ∀ t : List Int, rng t → ∀ b ∈ joinTail [58] (t.map hx), b ≠ 46 ∧ b ≠ 47 ∧ b.toNat < 128 := by
    intro t ht b hb
    unfold joinTail at hb
    rw [List.map_map, List.mem_flatten] at hb
    obtain ⟨y, hy, hb⟩ := hb
    obtain ⟨x, hx', rfl⟩ := List.mem_map.1 hy
    have hr := ht x hx'
    simp only [Function.comp, List.mem_append, List.mem_singleton] at hb
    rcases hb with rfl | hb
    · decide
    · have := hexL_mem (u := x.toNat) (by omega) b hb
      exact ⟨this.2.2.1, this.2.2.2.1, this.1⟩
  intro b hb
  unfold tx at hb
  cases l with
  | nil => simp [join_nil] at hb
  | cons x t =>
    rw [List.map_cons, join_cons, List.mem_append] at hb
    rcases hb with hb | hb
    · have hr := h x (by simp)
      have := hexL_mem (u := x.toNat) (by omega) b hb
      exact ⟨this.2.2.1, this.2.2.2.1, this.1⟩
    · exact tail t (fun y hy => h y (by simp [hy])) b hb
/-! ### addr.join -/
theorem rd_nat (l : List Int) (i : Nat) : rd l (i : Int) = l.getD i 0 := by unfold rd; rw [Int.toNat_natCast]
theorem join_loop (l : List Int) (h : rng l) (h8 : l.length ≤ 8) : ∀ (m k i : Nat), i + m = l.length →
    addr_join.l0 (k + m + 1) ((l.take i).map fun x => mkB (hx x)) l (l.length : Int) (i : Int) = some (mkB (tx l)) := by
  intro m
  induction m with
  | zero =>
    intro k i hi
    have e : i = l.length := by omega
    have hd : ((l.map fun x => mkB (hx x)).map fun b => b.data.toList) = l.map hx := by
      rw [List.map_map]
      exact List.map_congr_left fun x _ => mkB_data _
    have ht := tx_len l
    unfold tx at ht
    rw [addr_join.l0, if_neg (by omega), e, List.take_length]
    unfold strings_Join.f
    rw [hd, if_pos ⟨by rw [List.length_map]; omega, by show (join (l.map hx) [58]).length ≤ 100000; omega⟩, Option.bind_some]
    rfl
  | succ m ih =>
    intro k i hi
    have hlt : i < l.length := by omega
    have hr := h (l.getD i 0) (by rw [List.getD_eq_getElem?_getD, List.getElem?_eq_getElem hlt]; exact List.getElem_mem hlt)
    have hg : l.getD i 0 = l[i] := by rw [List.getD_eq_getElem?_getD, List.getElem?_eq_getElem hlt]; rfl
    rw [addr_join.l0, if_pos (by omega), if_pos (by omega), if_pos (by omega), rd_nat, wr_u64 _ hr.1 (by omega)]
    unfold strconv_FormatUint_49.f
    rw [if_pos ⟨rfl, hr.1, by omega⟩, Option.bind_some, if_pos (by rw [List.length_map, List.length_take]; omega), wrap_small i (by omega)]
    have e : ((l.take i).map fun x => mkB (hx x)) ++ [mkB (hexL (l.getD i 0).toNat)] = (l.take (i + 1)).map fun x => mkB (hx x) := by
      rw [List.take_succ_eq_append_getElem hlt, List.map_append, hg]; rfl
    rw [e, show k + (m + 1) = k + m + 1 by omega]
    exact ih k (i + 1) (by omega)
theorem join_eq (k : Nat) (l : List Int) (h : rng l) (h8 : l.length ≤ 8) : addr_join.f (k + 9) l = some (mkB (tx l)) := by
  unfold addr_join.f
  have := join_loop l h h8 l.length (k + (8 - l.length)) 0 (by omega)
  rw [show k + (8 - l.length) + l.length + 1 = k + 9 by omega] at this
  exact this
/-! ### addr.part -/
theorem num_hx {x : Int} (h : 0 ≤ x ∧ x < 65536) : addr_number.f (mkB (hx x)) 4 16 = some (x, true) := by
  unfold addr_number.f
  rw [if_pos ⟨.inr rfl, by decide⟩]
  have := numP_hex (u := x.toNat) (by omega)
  rw [Int.toNat_of_nonneg h.1] at this
  exact this
theorem wrapm (n : Nat) (h : n ≤ 8) : wrap64 ((n : Int) - 1) = (n : Int) - 1 := by unfold wrap64; omega
theorem part_loop (last : Bool) (l : List Int) (h : rng l) (h8 : l.length ≤ 8) : ∀ (m k i : Nat), i + m = l.length →
    addr_part.l0 (k + 2 * m + 1) last (l.take i) (l.map fun x => mkB (hx x)) (l.map fun x => mkB (hx x)) ((l.map fun x => mkB (hx x)).length : Int) (i : Int) = some (l, true) := by
  intro m
  induction m with
  | zero =>
    intro k i hi
    have e : i = l.length := by omega
    rw [addr_part.l0, if_neg (by rw [List.length_map]; omega), e, List.take_length]
  | succ m ih =>
    intro k i hi
    have hlt : i < l.length := by omega
    have hr := h l[i] (List.getElem_mem hlt)
    have hg : rdOf ByteArray.empty (l.map fun x => mkB (hx x)) (i : Int) = mkB (hx l[i]) := by
      unfold rdOf
      rw [Int.toNat_natCast, List.getD_eq_getElem?_getD, List.getElem?_map, List.getElem?_eq_getElem hlt]
      rfl
    have hel := elder_none (k + 2 * (m + 1)) (mkB (hx l[i])) (by rw [mkB_size]; have := (hexL_len l[i].toNat).2; unfold hx; omega) (by rw [mkB_data]; exact fun hb => (hexL_mem (u := l[i].toNat) (by omega) 46 hb).2.2.1 rfl)
    rw [addr_part.l0, if_pos (by rw [List.length_map]; omega), if_pos (by omega), if_pos (by rw [List.length_map]; omega), hg, hel, Option.bind_some, if_neg (by decide), show k + 2 * (m + 1) = k + 2 * m + 1 + 1 by omega, addr_part.j1, if_neg (by decide), num_hx hr, Option.bind_some, if_pos rfl, if_pos (by rw [List.length_take]; omega), wrap_small i (by omega), wr_u16]
    have e : l.take i ++ [l[i] % 65536] = l.take (i + 1) := by
      rw [List.take_succ_eq_append_getElem hlt, show l[i] % 65536 = l[i] by omega]
    rw [e]
    exact ih k (i + 1) (by omega)
theorem toList_ne {l : List UInt8} (h : l ≠ []) : ¬ (mkB l).toList = [] := by
  intro e
  rw [ByteArray.toList_eq, mkB_data] at e
  exact h e
theorem tx_ne {l : List Int} (h : l ≠ []) : tx l ≠ [] := by
  intro e
  cases l with
  | nil => exact h rfl
  | cons x t =>
    unfold tx at e
    rw [List.map_cons, join_cons] at e
    have := (hexL_len x.toNat).1
    have e2 := (List.append_eq_nil_iff.1 e).1
    unfold hx at e2
    rw [e2] at this
    exact absurd this (by decide)
theorem part_eq (k : Nat) (last : Bool) (l : List Int) (h : rng l) (h8 : l.length ≤ 8) : addr_part.f (k + 17) (mkB (tx l)) last = some (l, true) := by
  unfold addr_part.f
  by_cases c : l = []
  · subst c
    rw [if_pos (by rw [ByteArray.toList_eq, mkB_data]; rfl)]
  · rw [if_neg (toList_ne (tx_ne c))]
    have ht := tx_len l
    have hs : strings_Split.f (mkB (tx l)) (⟨#[58]⟩ : ByteArray) = some (l.map fun x => mkB (hx x)) := by
      unfold strings_Split.f
      rw [if_pos ⟨by rw [mkB_size]; omega, rfl⟩]
      rw [show (⟨#[58]⟩ : ByteArray) = oneS 58 from rfl, splitB_list, mkB_data]
      unfold tx
      rw [split_join 58 (l.map hx) (by simpa using c) (fun y hy => (hx_ok h y hy).1), List.map_map]
      rfl
    rw [hs, Option.bind_some]
    have := part_loop last l h h8 l.length (k + 2 * (8 - l.length)) 0 (by omega)
    rw [show k + 2 * (8 - l.length) + 2 * l.length + 1 = k + 17 by omega] at this
    exact this
/-! ### addr.newer -/
theorem rng_take {l : List Int} (h : rng l) (n : Nat) : rng (l.take n) := fun x hx => h x (List.mem_of_mem_take hx)
theorem rng_drop {l : List Int} (h : rng l) (n : Nat) : rng (l.drop n) := fun x hx => h x (List.mem_of_mem_drop hx)
theorem newer_whole (k : Nat) (l : List Int) (h : rng l) (h8 : l.length = 8) : addr_newer.f (k + 17) (mkB (tx l)) = some (l, true) := by
  have ht := tx_len l
  have hc := cut_whole (l.map hx) (hx_ok h)
  change cut (tx l) [58, 58] = (tx l, [], false) at hc
  unfold addr_newer.f newerF
  rw [if_pos (by rw [mkB_size]; omega), mkB_data, hc]
  simp only
  rw [if_neg (by decide), show (!false) = true from rfl, part_eq k true l h (by omega), Option.bind_some, if_neg (show ¬ (true = false) by decide)]
  have hn : addr_part.f (k + 17) (mkB []) true = some ([], true) := part_eq k true [] (fun x hx => by cases hx) (by decide)
  rw [hn, Option.bind_some, if_neg (show ¬ (true = false) by decide)]
  simp only
  rw [if_pos ⟨by omega, by decide⟩, if_neg (by
    rw [h8]
    rintro (⟨e, _⟩ | ⟨_, e⟩)
    · cases e
    · exact e (by decide)), h8]
  simp
theorem newer_gap (k f n : Nat) (l : List Int) (h : rng l) (h8 : l.length = 8) (hfn : f + n ≤ 8) (hn : 1 < n) (hl : l = l.take f ++ List.replicate n 0 ++ l.drop (f + n)) :
    addr_newer.f (k + 17) (mkB (tx (l.take f) ++ 58 :: 58 :: tx (l.drop (f + n)))) = some (l, true) := by
  have ht1 := tx_len (l.take f)
  have ht2 := tx_len (l.drop (f + n))
  have e1 : (l.take f).length = f := by rw [List.length_take]; omega
  have e2 : (l.drop (f + n)).length = 8 - (f + n) := by rw [List.length_drop, h8]
  have hc := cut_gap ((l.take f).map hx) ((l.drop (f + n)).map hx) (hx_ok (rng_take h f))
  change cut (tx (l.take f) ++ 58 :: 58 :: tx (l.drop (f + n))) [58, 58] = (tx (l.take f), tx (l.drop (f + n)), true) at hc
  have hno := contains_no ((l.drop (f + n)).map hx) (hx_ok (rng_drop h (f + n)))
  change contains (tx (l.drop (f + n))) [58, 58] = false at hno
  unfold addr_newer.f newerF
  rw [if_pos (by rw [mkB_size, List.length_append, List.length_cons, List.length_cons]; omega), mkB_data, hc]
  simp only
  rw [hno, if_neg (by decide), show (!true) = false from rfl, part_eq k false _ (rng_take h f) (by omega), Option.bind_some, if_neg (show ¬ (true = false) by decide), part_eq k true _ (rng_drop h (f + n)) (by omega), Option.bind_some, if_neg (show ¬ (true = false) by decide)]
  simp only
  rw [if_pos ⟨by omega, by omega⟩, e1, e2]
  have en : (8 - (f : Int) - ((8 - (f + n) : Nat) : Int)).toNat = n := by omega
  rw [if_neg (by
    rintro (⟨_, e⟩ | ⟨e, _⟩)
    · omega
    · cases e), en]
  exact congrArg some (Prod.ext hl.symm rfl)
/-! ### The whole -/
def ok2 (six : Bool) (hi lo : Int) : Prop := 0 ≤ hi ∧ hi < 18446744073709551616 ∧ 0 ≤ lo ∧ lo < 18446744073709551616 ∧ (six = true ∨ (hi = 0 ∧ lo < 4294967296))
theorem check_ok {six : Bool} {hi lo : Int} (h : ok2 six hi lo) : addr_Check.f six hi lo = some 0 := by
  unfold addr_Check.f
  cases six
  · rcases h.2.2.2.2 with e | ⟨e1, e2⟩
    · cases e
    · rw [if_neg (by decide), if_pos e1, if_pos (by have := h.2.2.1; omega)]
  · rw [if_pos rfl]
theorem has58 {l : List Int} (h : 2 ≤ l.length) : (58 : UInt8) ∈ tx l := by
  match l, h with
  | x :: y :: t, _ =>
    unfold tx
    rw [List.map_cons, List.map_cons, join_cons]
    simp [joinTail]
theorem read_six (k : Nat) (s : List UInt8) (l : List Int) (hi lo : Int) (hs : s.length ≤ 100) (h46 : (46 : UInt8) ∉ s) (h58 : (58 : UInt8) ∈ s) (hn : addr_newer.f (k + 17) (mkB s) = some (l, true)) (ho : addr_of.f (k + 17) l = some (true, hi, lo)) :
    addr_Read.f (k + 17) (mkB s) = some (true, hi, lo, 0) := by
  unfold addr_Read.f
  rw [elder_none (k + 17) (mkB s) (by rw [mkB_size]; omega) (by rw [mkB_data]; exact h46), Option.bind_some, if_neg (by decide)]
  unfold strings_Contains.f
  rw [if_pos (by rw [mkB_size]; omega), Option.bind_some, mkB_data, if_pos (contains_one h58), hn, Option.bind_some, if_pos rfl, ho, Option.bind_some]
/-- An address is read of its text; the text is short, without strokes. -/
theorem read_text (six : Bool) (hi lo : Int) (h : ok2 six hi lo) (k : Nat) : ∃ s : List UInt8, addr_Text.f (k + 17) six hi lo = some (mkB s, 0) ∧ addr_Read.f (k + 17) (mkB s) = some (six, hi, lo, 0) ∧ (47 : UInt8) ∉ s ∧ s.length ≤ 39 := by
  unfold addr_Text.f textF
  rw [check_ok h, Option.bind_some, if_pos rfl]
  obtain ⟨h1, h2, h3, h4, h5⟩ := h
  cases six
  · rcases h5 with e | ⟨e1, e2⟩
    · cases e
    · subst e1
      obtain ⟨q1, q2, q3⟩ := elder_quad (k + 12) lo h3 e2
      rw [if_neg (by decide), if_pos (by omega)]
      refine ⟨_, rfl, ?_, q2, by omega⟩
      unfold addr_Read.f
      rw [show k + 17 = k + 12 + 5 by omega, q3, Option.bind_some, if_pos rfl]
  · rw [if_pos rfl]
    have hr : rng (cutL hi lo) := cut_rng hi lo
    have h8 : (cutL hi lo).length = 8 := rfl
    have hof : addr_of.f (k + 17) (cutL hi lo) = some (true, hi, lo) := of_cut (k + 8) hi lo h1 h2 h3 h4
    obtain ⟨f, n, hz, hfn, hl⟩ := zL_whole (cutL hi lo)
    rw [h8] at hfn
    rw [hz]
    simp only
    by_cases c : 1 < n
    · rw [if_pos (by omega), if_pos ⟨by omega, by omega⟩, Int.toNat_natCast, show ((f : Int) + (n : Int)).toNat = f + n by omega, join_eq (k + 8) _ (rng_take hr f) (by rw [List.length_take]; omega), Option.bind_some, join_eq (k + 8) _ (rng_drop hr (f + n)) (by rw [List.length_drop]; omega), Option.bind_some]
      have t1 := tx_len ((cutL hi lo).take f)
      have t2 := tx_len ((cutL hi lo).drop (f + n))
      rw [List.length_take, h8] at t1
      rw [List.length_drop, h8] at t2
      rw [if_pos ⟨by rw [mkB_size]; omega, by rw [mkB_size]; omega⟩]
      have es : (mkB (tx ((cutL hi lo).take f)) ++ (⟨#[58, 58]⟩ : ByteArray)) ++ mkB (tx ((cutL hi lo).drop (f + n))) = mkB (tx ((cutL hi lo).take f) ++ 58 :: 58 :: tx ((cutL hi lo).drop (f + n))) := by
        rw [← mkB_eta ((mkB (tx ((cutL hi lo).take f)) ++ (⟨#[58, 58]⟩ : ByteArray)) ++ mkB (tx ((cutL hi lo).drop (f + n))))]
        congr 1
        simp [ByteArray.data_append, mkB]
      rw [es]
      have hm : ∀ b ∈ tx ((cutL hi lo).take f) ++ 58 :: 58 :: tx ((cutL hi lo).drop (f + n)), b ≠ 46 ∧ b ≠ 47 := by
        intro b hb
        rw [List.mem_append, List.mem_cons, List.mem_cons] at hb
        rcases hb with hb | rfl | rfl | hb
        · exact ⟨(tx_mem (rng_take hr f) b hb).1, (tx_mem (rng_take hr f) b hb).2.1⟩
        · decide
        · decide
        · exact ⟨(tx_mem (rng_drop hr (f + n)) b hb).1, (tx_mem (rng_drop hr (f + n)) b hb).2.1⟩
      have hlen : (tx ((cutL hi lo).take f) ++ 58 :: 58 :: tx ((cutL hi lo).drop (f + n))).length ≤ 39 := by
        rw [List.length_append, List.length_cons, List.length_cons]; omega
      exact ⟨_, rfl, read_six k _ _ hi lo (by omega) (fun hb => (hm _ hb).1 rfl) (by simp) (newer_gap k f n _ hr h8 hfn c hl) hof, fun hb => (hm _ hb).2 rfl, hlen⟩
    · rw [if_neg (by omega), join_eq (k + 8) _ hr (by omega), Option.bind_some]
      have t1 : (tx (cutL hi lo)).length ≤ 39 := by
        have := joinTail_len ((cutL hi lo).drop 1)
        show (join ((cutL hi lo).map hx) [58]).length ≤ 39
        unfold cutL at this ⊢
        rw [List.map_cons, join_cons, List.length_append]
        simp only [List.drop_succ_cons, List.drop_zero, List.length_cons, List.length_nil] at this
        have h0 := (hexL_len (g16 hi 3).toNat).2
        unfold hx at *
        omega
      exact ⟨_, rfl, read_six k _ _ hi lo (by omega) (fun hb => (tx_mem hr _ hb).1 rfl) (has58 (by rw [h8]; decide)) (newer_whole k _ hr h8) hof, fun hb => (tx_mem hr _ hb).2.1 rfl, t1⟩
end Go.Proofs.YtilobbjnmnnmnaaDoor.AddrFns
set_option linter.unusedSimpArgs false
set_option linter.unusedVariables false
namespace Go.Proofs.YtilobbjnmnnmnaaDoor.AddrFns
open Go.RowKit Go.Lib Go.Proofs.YtilobbjnmnnmnaaDoor.OGr Go.Proofs.YtilobbjnmnnmnaaDoor.AddrLib Go.Proofs.YtilobbjnmnnmnaaDoorW.PrintWords Go.Proofs.YtilobbjnmnnmnaaDoorW.PrintLast Go.Proofs.YtilobbjnmnnmnaaDoorW.PrintMore

/-- A group's text, and what it tells. -/
structure Grp (p : List UInt8 × Int) : Prop where
  ne : p.1 ≠ []
  len : p.1.length ≤ 4
  mem : ∀ b ∈ p.1, b ≠ 46 ∧ b ≠ 58
  num : addr_number.f (mkB p.1) 4 16 = some (p.2, true)
  rng : 0 ≤ p.2 ∧ p.2 < 65536
def gts (l : List (List UInt8 × Int)) : List UInt8 := join (l.map Prod.fst) [58]
theorem gts_ok {l : List (List UInt8 × Int)} (h : ∀ p ∈ l, Grp p) : okG (l.map Prod.fst) := by
  intro y hy
  obtain ⟨p, hp, rfl⟩ := List.mem_map.1 hy
  exact ⟨fun hb => ((h p hp).mem 58 hb).2 rfl, (h p hp).ne⟩
theorem gtsTail_len (l : List (List UInt8 × Int)) (h : ∀ p ∈ l, Grp p) : (joinTail [58] (l.map Prod.fst)).length ≤ 5 * l.length := by
  induction l with
  | nil => simp [joinTail]
  | cons x t ih =>
    have h1 := (h x (by simp)).len
    have ih := ih (fun p hp => h p (by simp [hp]))
    unfold joinTail at ih ⊢
    simp only [List.map_cons, List.flatten_cons, List.length_append, List.length_cons, List.length_nil, List.map_map] at ih ⊢
    omega
theorem gts_len (l : List (List UInt8 × Int)) (h : ∀ p ∈ l, Grp p) : (gts l).length ≤ 5 * l.length := by
  unfold gts
  cases l with
  | nil => simp [join_nil]
  | cons x t =>
    rw [List.map_cons, join_cons, List.length_append, List.length_cons]
    have := gtsTail_len t (fun p hp => h p (by simp [hp]))
    have := (h x (by simp)).len
    omega
theorem gts_mem {l : List (List UInt8 × Int)} (h : ∀ p ∈ l, Grp p) : (46 : UInt8) ∉ gts l := by
  have tail : ∀ t : List (List UInt8 × Int), (∀ p ∈ t, Grp p) → (46 : UInt8) ∉ joinTail [58] (t.map Prod.fst) := by
    intro t ht hb
    unfold joinTail at hb
    rw [List.map_map, List.mem_flatten] at hb
    obtain ⟨y, hy, hb⟩ := hb
    obtain ⟨x, hx', rfl⟩ := List.mem_map.1 hy
    simp only [Function.comp, List.mem_append, List.mem_singleton] at hb
    rcases hb with hb | hb
    · exact absurd hb (by decide)
    · exact ((ht x hx').mem _ hb).1 rfl
  intro hb
  unfold gts at hb
  cases l with
  | nil => simp [join_nil] at hb
  | cons x t =>
    rw [List.map_cons, join_cons, List.mem_append] at hb
    rcases hb with hb | hb
    · exact ((h x (by simp)).mem _ hb).1 rfl
    · exact tail t (fun y hy => h y (by simp [hy])) hb
theorem part_loopG (last : Bool) (l : List (List UInt8 × Int)) (h : ∀ p ∈ l, Grp p) (h8 : l.length ≤ 8) : ∀ (m k i : Nat), i + m = l.length →
    addr_part.l0 (k + 2 * m + 1) last ((l.take i).map Prod.snd) (l.map fun x => mkB x.1) (l.map fun x => mkB x.1) ((l.map fun x => mkB x.1).length : Int) (i : Int) = some (l.map Prod.snd, true) := by
  intro m
  induction m with
  | zero =>
    intro k i hi
    have e : i = l.length := by omega
    rw [addr_part.l0, if_neg (by rw [List.length_map]; omega), e, List.take_length]
  | succ m ih =>
    intro k i hi
    have hlt : i < l.length := by omega
    have hr := h l[i] (List.getElem_mem hlt)
    have hg : rdOf ByteArray.empty (l.map fun x => mkB x.1) (i : Int) = mkB l[i].1 := by
      unfold rdOf
      rw [Int.toNat_natCast, List.getD_eq_getElem?_getD, List.getElem?_map, List.getElem?_eq_getElem hlt]
      rfl
    have hel := elder_none (k + 2 * (m + 1)) (mkB l[i].1) (by rw [mkB_size]; have := hr.len; omega) (by rw [mkB_data]; exact fun hb => (hr.mem 46 hb).1 rfl)
    have hrg := hr.rng
    rw [addr_part.l0, if_pos (by rw [List.length_map]; omega), if_pos (by omega), if_pos (by rw [List.length_map]; omega), hg, hel, Option.bind_some, if_neg (by decide), show k + 2 * (m + 1) = k + 2 * m + 1 + 1 by omega, addr_part.j1, if_neg (by decide), hr.num, Option.bind_some, if_pos rfl, if_pos (by rw [List.length_map, List.length_take]; omega), wrap_small i (by omega), wr_u16]
    have e : (l.take i).map Prod.snd ++ [l[i].2 % 65536] = (l.take (i + 1)).map Prod.snd := by
      rw [List.take_succ_eq_append_getElem hlt, List.map_append, show l[i].2 % 65536 = l[i].2 by omega]
      rfl
    rw [e]
    exact ih k (i + 1) (by omega)
theorem gts_ne {l : List (List UInt8 × Int)} (h : ∀ p ∈ l, Grp p) (c : l ≠ []) : gts l ≠ [] := by
  intro e
  cases l with
  | nil => exact c rfl
  | cons x t =>
    unfold gts at e
    rw [List.map_cons, join_cons] at e
    exact (h x (by simp)).ne (List.append_eq_nil_iff.1 e).1
theorem part_groups (k : Nat) (last : Bool) (l : List (List UInt8 × Int)) (h : ∀ p ∈ l, Grp p) (h8 : l.length ≤ 8) : addr_part.f (k + 17) (mkB (gts l)) last = some (l.map Prod.snd, true) := by
  unfold addr_part.f
  by_cases c : l = []
  · subst c
    rw [if_pos (by rw [ByteArray.toList_eq, mkB_data]; rfl)]
    rfl
  · rw [if_neg (toList_ne (gts_ne h c))]
    have ht := gts_len l h
    have hs : strings_Split.f (mkB (gts l)) (⟨#[58]⟩ : ByteArray) = some (l.map fun x => mkB x.1) := by
      unfold strings_Split.f
      rw [if_pos ⟨by rw [mkB_size]; omega, rfl⟩]
      rw [show (⟨#[58]⟩ : ByteArray) = oneS 58 from rfl, splitB_list, mkB_data]
      unfold gts
      rw [split_join 58 (l.map Prod.fst) (by simpa using c) (fun y hy => (gts_ok h y hy).1), List.map_map]
      rfl
    rw [hs, Option.bind_some]
    have := part_loopG last l h h8 l.length (k + 2 * (8 - l.length)) 0 (by omega)
    rw [show k + 2 * (8 - l.length) + 2 * l.length + 1 = k + 17 by omega] at this
    exact this
theorem newer_groups (k : Nat) (l : List (List UInt8 × Int)) (h : ∀ p ∈ l, Grp p) (h8 : l.length = 8) : addr_newer.f (k + 17) (mkB (gts l)) = some (l.map Prod.snd, true) := by
  have ht := gts_len l h
  have hc := cut_whole (l.map Prod.fst) (gts_ok h)
  change cut (gts l) [58, 58] = (gts l, [], false) at hc
  unfold addr_newer.f newerF
  rw [if_pos (by rw [mkB_size]; omega), mkB_data, hc]
  simp only
  rw [if_neg (by decide), show (!false) = true from rfl, part_groups k true l h (by omega), Option.bind_some, if_neg (show ¬ (true = false) by decide)]
  have hn : addr_part.f (k + 17) (mkB []) true = some ([], true) := part_eq k true [] (fun x hx => by cases hx) (by decide)
  rw [hn, Option.bind_some, if_neg (show ¬ (true = false) by decide)]
  simp only
  rw [List.length_map, if_pos ⟨by omega, by decide⟩, if_neg (by
    rw [h8]
    rintro (⟨e, _⟩ | ⟨_, e⟩)
    · cases e
    · exact e (by decide)), h8]
  simp
theorem has58G {l : List (List UInt8 × Int)} (h : 2 ≤ l.length) : (58 : UInt8) ∈ gts l := by
  match l, h with
  | x :: y :: t, _ =>
    unfold gts
    rw [List.map_cons, List.map_cons, join_cons]
    simp [joinTail]
/-- Eight groups are an address. -/
theorem read_groups (k : Nat) (l : List (List UInt8 × Int)) (h : ∀ p ∈ l, Grp p) (hi lo : Int) (h0 : 0 ≤ hi) (h1 : hi < 18446744073709551616) (l0 : 0 ≤ lo) (l1 : lo < 18446744073709551616) (hv : l.map Prod.snd = cutL hi lo) :
    addr_Read.f (k + 17) (mkB (gts l)) = some (true, hi, lo, 0) := by
  have h8 : l.length = 8 := by rw [← List.length_map (f := Prod.snd), hv]; rfl
  have hlen := gts_len l h
  refine read_six k (gts l) (cutL hi lo) hi lo (by omega) (gts_mem h) (has58G (by omega)) ?_ (of_cut (k + 8) hi lo h0 h1 l0 l1)
  rw [← hv]
  exact newer_groups k l h h8
end Go.Proofs.YtilobbjnmnnmnaaDoor.AddrFns
set_option linter.unusedSimpArgs false
set_option linter.unusedVariables false
namespace Go.Proofs.YtilobbjnmnnmnaaDoor.AddrFns
open Go.RowKit Go.Lib Go.Proofs.YtilobbjnmnnmnaaDoor.OGr Go.Proofs.YtilobbjnmnnmnaaDoor.AddrLib Go.Proofs.YtilobbjnmnnmnaaDoorW.PrintWords Go.Proofs.YtilobbjnmnnmnaaDoorW.PrintLast Go.Proofs.YtilobbjnmnnmnaaDoorW.PrintMore

def octs (a : Int) : Nat → List Int
  | 0 => []
  | m + 1 => (a / 2 ^ (8 * m) % 256) :: octs a m
theorem octs_rng (a : Int) : ∀ m, ∀ x ∈ octs a m, 0 ≤ x ∧ x < 256
  | 0, x, h => by cases h
  | m + 1, x, h => by
    rcases List.mem_cons.1 h with rfl | h
    · omega
    · exact octs_rng a m x h
theorem parted_loop (a : Int) : ∀ (m k : Nat) (l : List Int), m ≤ 8 → l.length + m ≤ 100 → addr_parted.l0 (k + m + 1) l a ((m : Int) - 1) = some (l ++ octs a m) := by
  intro m
  induction m with
  | zero =>
    intro k l _ _
    rw [addr_parted.l0, if_neg (by omega)]
    simp [octs]
  | succ m ih =>
    intro k l hm hl
    have e0 : ((m + 1 : Nat) : Int) - 1 = (m : Int) := by omega
    have e1 : wrap64 (8 * (m : Int)) = 8 * (m : Int) := by unfold wrap64; omega
    have e2 : shr .u64 a (8 * (m : Int)) = a / 2 ^ (8 * m) := by
      show a / 2 ^ min (8 * (m : Int)).toNat 64 = _
      rw [show min (8 * (m : Int)).toNat 64 = 8 * m by omega]
    have e3 : wrap64 ((m : Int) - 1) = (m : Int) - 1 := by unfold wrap64; omega
    rw [e0, show k + (m + 1) + 1 = (k + m + 1) + 1 by omega, addr_parted.l0, if_pos (by omega), e1, if_pos (by omega), if_pos (by omega), e2, e3, ih k _ (by omega) (by rw [List.length_append, List.length_singleton]; omega)]
    simp [octs]
theorem parted_eq (a : Int) (m k : Nat) (l : List Int) (hm : m ≤ 8) (hl : l.length ≤ 50) : addr_parted.f (k + 9) l a (m : Int) = some (l ++ octs a m) := by
  unfold addr_parted.f
  have := parted_loop a m (k + (8 - m)) l hm (by omega)
  rw [show k + (8 - m) + m + 1 = k + 9 by omega] at this
  rw [show wrap64 ((m : Int) - 1) = (m : Int) - 1 by unfold wrap64; omega]
  exact this
def octsOf (six : Bool) (hi lo : Int) : List Int := if six then octs hi 8 ++ octs lo 8 else octs lo 4
theorem octsOf_rng (six : Bool) (hi lo : Int) : ∀ x ∈ octsOf six hi lo, 0 ≤ x ∧ x < 256 := by
  intro x h
  unfold octsOf at h
  split at h
  · rcases List.mem_append.1 h with h | h <;> exact octs_rng _ _ x h
  · exact octs_rng _ _ x h
theorem octets_ok {six : Bool} {hi lo : Int} (h : ok2 six hi lo) (k : Nat) : addr_Octets.f (k + 9) six hi lo = some (strOfNums (octsOf six hi lo), 0) := by
  unfold addr_Octets.f
  rw [check_ok h, Option.bind_some, if_pos rfl]
  cases six
  · rw [if_neg (by decide)]
    have := parted_eq lo 4 k [] (by decide) (by decide)
    rw [show ((4 : Nat) : Int) = 4 from rfl, List.nil_append] at this
    rw [this, Option.bind_some]
    rfl
  · rw [if_pos rfl]
    have h1 := parted_eq hi 8 k [] (by decide) (by decide)
    have h2 := parted_eq lo 8 k (octs hi 8) (by decide) (by simp [octs])
    rw [show ((8 : Nat) : Int) = 8 from rfl] at h1 h2
    rw [List.nil_append] at h1
    rw [h1, Option.bind_some, h2, Option.bind_some]
    rfl
theorem octs_len (a : Int) : ∀ m, (octs a m).length = m
  | 0 => rfl
  | m + 1 => by rw [octs, List.length_cons, octs_len a m]
theorem octsOf_len (six : Bool) (hi lo : Int) : (octsOf six hi lo).length = if six then 16 else 4 := by
  unfold octsOf
  split
  · rw [List.length_append, octs_len, octs_len]
  · rw [octs_len]
/-! ### The row -/
theorem hexS_eq : ∀ d : Fin 16, hexS (d.val : Int) = mkB [hexD d.val] := by decide +kernel
theorem hexS_at (d : Int) (h0 : 0 ≤ d) (h1 : d < 16) : hexS d = mkB [hexD d.toNat] := by
  have := hexS_eq ⟨d.toNat, by omega⟩
  rw [show ((⟨d.toNat, by omega⟩ : Fin 16).val : Int) = d by show ((d.toNat : Nat) : Int) = d; omega] at this
  exact this
def dig4 (a b : Int) : List UInt8 := [hexD (a / 16).toNat, hexD (a % 16).toNat, hexD (b / 16).toNat, hexD (b % 16).toNat]
theorem grp4 (a b : Int) (ha : 0 ≤ a ∧ a < 256) (hb : 0 ≤ b ∧ b < 256) : Grp (dig4 a b, a * 256 + b) := by
  have f1 := hexD_fact (a / 16).toNat (by omega)
  have f2 := hexD_fact (a % 16).toNat (by omega)
  have f3 := hexD_fact (b / 16).toNat (by omega)
  have f4 := hexD_fact (b % 16).toNat (by omega)
  have hm : ∀ c ∈ dig4 a b, c.toNat < 128 ∧ c ≠ 58 ∧ c ≠ 46 ∧ digI (c.toNat : Int) < 16 := by
    intro c hc
    unfold dig4 at hc
    simp only [List.mem_cons, List.not_mem_nil, or_false] at hc
    rcases hc with rfl | rfl | rfl | rfl
    · exact ⟨f1.2.1, f1.2.2.1, f1.2.2.2.1, by rw [f1.1]; omega⟩
    · exact ⟨f2.2.1, f2.2.2.1, f2.2.2.2.1, by rw [f2.1]; omega⟩
    · exact ⟨f3.2.1, f3.2.2.1, f3.2.2.2.1, by rw [f3.1]; omega⟩
    · exact ⟨f4.2.1, f4.2.2.1, f4.2.2.2.1, by rw [f4.1]; omega⟩
  refine ⟨by simp [dig4], Nat.le_refl 4, fun c hc => ⟨(hm c hc).2.2.1, (hm c hc).2.1⟩, ?_, by omega, by omega⟩
  unfold addr_number.f
  rw [if_pos ⟨.inr rfl, by decide⟩]
  have hz : (mkB (dig4 a b)).size = 4 := by rw [mkB_size]; rfl
  unfold numP
  rw [if_neg (by rw [hz]; decide), if_pos (by unfold ascii; rw [mkB_data, List.all_eq_true]; intro b hb; exact decide_eq_true (hm b hb).1), if_pos (by rw [mkB_bytes]; intro x hx; obtain ⟨b, hb, rfl⟩ := List.mem_map.1 hx; exact (hm b hb).2.2.2), mkB_bytes]
  have : valI 16 ((dig4 a b).map fun b => (b.toNat : Int)) = a * 256 + b := by
    unfold valI dig4
    simp only [List.map_cons, List.map_nil, List.foldl_cons, List.foldl_nil, f1.1, f2.1, f3.1, f4.1]
    omega
  rw [this]
theorem mkB_app (a b : List UInt8) : mkB a ++ mkB b = mkB (a ++ b) := by
  rw [← mkB_eta (mkB a ++ mkB b)]
  congr 1
end Go.Proofs.YtilobbjnmnnmnaaDoor.AddrFns
set_option linter.unusedSimpArgs false
set_option linter.unusedVariables false
namespace Go.Proofs.YtilobbjnmnnmnaaDoor.AddrFns
open Go.RowKit Go.Lib Go.Proofs.YtilobbjnmnnmnaaDoor.OGr Go.Proofs.YtilobbjnmnnmnaaDoor.AddrLib Go.Proofs.YtilobbjnmnnmnaaDoorW.PrintWords Go.Proofs.YtilobbjnmnnmnaaDoorW.PrintLast Go.Proofs.YtilobbjnmnnmnaaDoorW.PrintMore

/-! ### One group -/
def w4 (x : Int) : List UInt8 := [hexD (x / 4096).toNat, hexD (x / 256 % 16).toNat, hexD (x / 16 % 16).toNat, hexD (x % 16).toNat]
theorem w4_dig (x : Int) : w4 x = dig4 (x / 256) (x % 256) := by
  unfold w4 dig4
  rw [show x / 256 / 16 = x / 4096 by omega, show x % 256 / 16 = x / 16 % 16 by omega, show x % 256 % 16 = x % 16 by omega]
theorem w4_grp {x : Int} (h : 0 ≤ x ∧ x < 65536) : Grp (w4 x, x) := by
  have := grp4 (x / 256) (x % 256) ⟨by omega, by omega⟩ ⟨by omega, by omega⟩
  rw [← w4_dig, show x / 256 * 256 + x % 256 = x by omega] at this
  exact this
theorem hexL_mem (u : Nat) (h : u < 65536) : ∀ c ∈ hexL u, c ≠ 46 ∧ c ≠ 58 := by
  intro c hc
  have hd : ∀ d, d < 16 → hexD d ≠ 46 ∧ hexD d ≠ 58 := fun d hd => ⟨(hexD_fact d hd).2.2.2.1, (hexD_fact d hd).2.2.1⟩
  unfold hexL at hc
  split at hc
  · simp only [List.mem_cons, List.not_mem_nil, or_false] at hc
    subst hc
    exact hd _ (by omega)
  · split at hc
    · simp only [List.mem_cons, List.not_mem_nil, or_false] at hc
      rcases hc with rfl | rfl <;> exact hd _ (by omega)
    · split at hc
      · simp only [List.mem_cons, List.not_mem_nil, or_false] at hc
        rcases hc with rfl | rfl | rfl <;> exact hd _ (by omega)
      · simp only [List.mem_cons, List.not_mem_nil, or_false] at hc
        rcases hc with rfl | rfl | rfl | rfl <;> exact hd _ (by omega)
theorem hx_grp {x : Int} (h : 0 ≤ x ∧ x < 65536) : Grp (hx x, x) := by
  have hlen := hexL_len x.toNat
  refine ⟨?_, hlen.2, hexL_mem x.toNat (by omega), num_hx h, h⟩
  intro e
  have : (hexL x.toNat).length = 0 := by rw [show hexL x.toNat = [] from e]; rfl
  omega
theorem hexD_nought : ∀ d : Fin 16, (hexD d.val = 48) = (d.val = 0) := by decide
theorem hexD_48 (d : Nat) (h : d < 16) : hexD d = 48 ↔ d = 0 := by rw [hexD_nought ⟨d, h⟩]
theorem bt_mkB (c : UInt8) (l : List UInt8) : bt (mkB (c :: l)) 0 = (c.toNat : Int) := by
  rw [bt_rd, mkB_bytes]
  rfl
theorem ext_mkB (c : UInt8) (l : List UInt8) : (mkB (c :: l)).extract 1 (mkB (c :: l)).size = mkB l := by
  apply bytesOf_inj
  rw [bytesOf_extract, mkB_bytes, mkB_bytes, mkB_size, List.map_cons, List.length_cons, List.take_succ_cons, List.drop_succ_cons, List.drop_zero, List.take_of_length_le (by rw [List.length_map]; exact Nat.le_refl _)]
theorem strp_go (n : Nat) (c d : UInt8) (l : List UInt8) (h : c = 48) : strp (n + 1) (mkB (c :: d :: l)) = strp n (mkB (d :: l)) := by
  rw [strp, if_pos ⟨by rw [mkB_size]; simp, by rw [bt_mkB, h]; rfl⟩, ext_mkB]
theorem strp_stop (n : Nat) (c : UInt8) (l : List UInt8) (h : c ≠ 48 ∨ l = []) : strp n (mkB (c :: l)) = mkB (c :: l) := by
  cases n with
  | zero => rfl
  | succ n =>
    rw [strp, if_neg]
    rintro ⟨h1, h2⟩
    rcases h with h | h
    · rw [bt_mkB] at h2
      apply h
      apply UInt8.toNat_inj.1
      show c.toNat = 48
      omega
    · subst h
      rw [mkB_size] at h1
      simp at h1
theorem g4_eq {x : Int} (h : 0 ≤ x ∧ x < 65536) : g4 x = mkB (w4 x) := by
  unfold g4 w4
  rw [hexS_at _ (by omega) (by omega), hexS_at _ (by omega) (by omega), hexS_at _ (by omega) (by omega), hexS_at _ (by omega) (by omega), mkB_app, mkB_app, mkB_app]
  rfl
theorem strp_eq {x : Int} (h : 0 ≤ x ∧ x < 65536) : strp 4 (g4 x) = mkB (hx x) := by
  rw [g4_eq h]
  obtain ⟨u, rfl⟩ := Int.eq_ofNat_of_zero_le h.1
  have hu : u < 65536 := by omega
  unfold w4 hx hexL
  rw [Int.toNat_natCast, show ((u : Int) / 4096).toNat = u / 4096 by omega, show ((u : Int) / 256 % 16).toNat = u / 256 % 16 by omega, show ((u : Int) / 16 % 16).toNat = u / 16 % 16 by omega, show ((u : Int) % 16).toNat = u % 16 by omega]
  by_cases c1 : u < 16
  · rw [if_pos c1, strp_go _ _ _ _ ((hexD_48 _ (by omega)).2 (by omega)), strp_go _ _ _ _ ((hexD_48 _ (by omega)).2 (by omega)), strp_go _ _ _ _ ((hexD_48 _ (by omega)).2 (by omega)), strp_stop _ _ _ (.inr rfl), show u % 16 = u by omega]
  · rw [if_neg c1]
    by_cases c2 : u < 256
    · rw [if_pos c2, strp_go _ _ _ _ ((hexD_48 _ (by omega)).2 (by omega)), strp_go _ _ _ _ ((hexD_48 _ (by omega)).2 (by omega)), strp_stop _ _ _ (.inl (fun e => by have := (hexD_48 _ (by omega)).1 e; omega)), show u / 16 % 16 = u / 16 by omega]
    · rw [if_neg c2]
      by_cases c3 : u < 4096
      · rw [if_pos c3, strp_go _ _ _ _ ((hexD_48 _ (by omega)).2 (by omega)), strp_stop _ _ _ (.inl (fun e => by have := (hexD_48 _ (by omega)).1 e; omega)), show u / 256 % 16 = u / 256 by omega]
      · rw [if_neg c3, strp_stop _ _ _ (.inl (fun e => by have := (hexD_48 _ (by omega)).1 e; omega))]
/-! ### Eight groups -/
def gx (wide : Bool) (x : Int) : List UInt8 := if wide then w4 x else hx x
theorem gOf_eq {x : Int} (wide : Bool) (h : 0 ≤ x ∧ x < 65536) : gOf wide x = mkB (gx wide x) := by
  unfold gOf gx
  cases wide
  · rw [if_neg (by decide), if_neg (by decide)]
    exact strp_eq h
  · rw [if_pos rfl, if_pos rfl]
    exact g4_eq h
theorem gx_grp {x : Int} (wide : Bool) (h : 0 ≤ x ∧ x < 65536) : Grp (gx wide x, x) := by
  unfold gx
  cases wide
  · rw [if_neg (by decide)]
    exact hx_grp h
  · rw [if_pos rfl]
    exact w4_grp h
theorem nums_app (a b : List Int) : strOfNums a ++ strOfNums b = strOfNums (a ++ b) := (str_append a b).symm
theorem len_gts (wide : Bool) (xs : List Int) (h : xs.length = 8) : (gts (xs.map fun x => (gx wide x, x))).length = (if wide then 39 else (tx xs).length) := by
  unfold gts tx
  rw [List.map_map]
  cases wide
  · rfl
  · match xs, h with
    | [a0, a1, a2, a3, a4, a5, a6, a7], _ => rfl
/-- The text is no longer than eight groups without needless noughts. -/
theorem text_len (k : Nat) (hi lo : Int) (h1 : 0 ≤ hi) (h2 : hi < 18446744073709551616) (h3 : 0 ≤ lo) (h4 : lo < 18446744073709551616) (s : List UInt8) (hs : addr_Text.f (k + 17) true hi lo = some (mkB s, 0)) : s.length ≤ (tx (cutL hi lo)).length := by
  unfold addr_Text.f textF at hs
  rw [check_ok (show ok2 true hi lo from ⟨h1, h2, h3, h4, .inl rfl⟩), Option.bind_some, if_pos rfl, if_pos rfl] at hs
  have hr : rng (cutL hi lo) := cut_rng hi lo
  have h8 : (cutL hi lo).length = 8 := rfl
  obtain ⟨f, n, hz, hfn, hl⟩ := zL_whole (cutL hi lo)
  rw [h8] at hfn
  rw [hz] at hs
  simp only at hs
  by_cases c : 1 < n
  · rw [if_pos (by omega), if_pos ⟨by omega, by omega⟩, Int.toNat_natCast, show ((f : Int) + (n : Int)).toNat = f + n by omega, join_eq (k + 8) _ (rng_take hr f) (by rw [List.length_take]; omega), Option.bind_some, join_eq (k + 8) _ (rng_drop hr (f + n)) (by rw [List.length_drop]; omega), Option.bind_some] at hs
    have t1 := tx_len ((cutL hi lo).take f)
    have t2 := tx_len ((cutL hi lo).drop (f + n))
    rw [List.length_take, h8] at t1
    rw [List.length_drop, h8] at t2
    rw [if_pos ⟨by rw [mkB_size]; omega, by rw [mkB_size]; omega⟩] at hs
    have hs := congrArg (fun b => b.size) (Prod.mk.inj (Option.some.inj hs)).1
    simp only [ByteArray.size_append, mkB_size] at hs
    rw [show (⟨#[58, 58]⟩ : ByteArray).size = 2 from rfl] at hs
    have jl : ∀ l : List Int, (tx l).length = (l.length - 1) + lens (l.map hx) := by
      intro l
      cases l with
      | nil => rfl
      | cons x t =>
        unfold tx
        rw [List.map_cons, join_length]
        simp only [List.length_cons, List.length_nil, List.length_map]
        omega
    have la : ∀ a b : List Int, lens ((a ++ b).map hx) = lens (a.map hx) + lens (b.map hx) := by
      intro a b
      unfold lens
      rw [List.map_append, List.map_append, List.sum_append]
    have lr : lens ((List.replicate n (0 : Int)).map hx) = n := by
      unfold lens
      rw [List.map_replicate, List.map_replicate, List.sum_replicate_nat]
      show n * (hx 0).length = n
      rw [show (hx 0).length = 1 from rfl, Nat.mul_one]
    have hL := congrArg (fun q => lens (q.map hx)) hl
    simp only [la, lr] at hL
    rw [jl, jl, List.length_take, List.length_drop, h8] at hs
    rw [jl, h8]
    omega
  · rw [if_neg (by omega), join_eq (k + 8) _ hr (by rw [h8]; decide), Option.bind_some] at hs
    have hs := congrArg (fun b => b.size) (Prod.mk.inj (Option.some.inj hs)).1
    simp only [mkB_size] at hs
    omega
/-! ### The law -/
set_option maxRecDepth 20000 in
theorem lives_true : nameplatelaw04_lives.f 400 = some true := by decide +kernel
def hiOf (a b c d : Int) : Int := ((a * 65536 + b) * 65536 + c) * 65536 + d
theorem g16_hiOf {a b c d : Int} (ha : 0 ≤ a ∧ a < 65536) (hb : 0 ≤ b ∧ b < 65536) (hc : 0 ≤ c ∧ c < 65536) (hd : 0 ≤ d ∧ d < 65536) : g16 (hiOf a b c d) 3 = a ∧ g16 (hiOf a b c d) 2 = b ∧ g16 (hiOf a b c d) 1 = c ∧ g16 (hiOf a b c d) 0 = d := by
  obtain ⟨n, hn⟩ : ∃ n, n = hiOf a b c d := ⟨_, rfl⟩
  rw [← hn]
  unfold hiOf at hn
  simp only [g16, wr_u16]
  refine ⟨by omega, by omega, by omega, by omega⟩
theorem cut_hiOf (a0 a1 a2 a3 a4 a5 a6 a7 : Int) (h : ∀ x ∈ [a0, a1, a2, a3, a4, a5, a6, a7], 0 ≤ x ∧ x < 65536) : cutL (hiOf a0 a1 a2 a3) (hiOf a4 a5 a6 a7) = [a0, a1, a2, a3, a4, a5, a6, a7] := by
  have b0 := h a0 (by simp)
  have b1 := h a1 (by simp)
  have b2 := h a2 (by simp)
  have b3 := h a3 (by simp)
  have b4 := h a4 (by simp)
  have b5 := h a5 (by simp)
  have b6 := h a6 (by simp)
  have b7 := h a7 (by simp)
  obtain ⟨p3, p2, p1, p0⟩ := g16_hiOf b0 b1 b2 b3
  obtain ⟨r3, r2, r1, r0⟩ := g16_hiOf b4 b5 b6 b7
  unfold cutL
  rw [p3, p2, p1, p0, r3, r2, r1, r0]
theorem hiOf_rng {a b c d : Int} (ha : 0 ≤ a ∧ a < 65536) (hb : 0 ≤ b ∧ b < 65536) (hc : 0 ≤ c ∧ c < 65536) (hd : 0 ≤ d ∧ d < 65536) : 0 ≤ hiOf a b c d ∧ hiOf a b c d < 18446744073709551616 := by
  unfold hiOf
  omega
def two (x : Int) : List Int := [x / 256, x % 256]
theorem octs_hiOf {a b c d : Int} (ha : 0 ≤ a ∧ a < 65536) (hb : 0 ≤ b ∧ b < 65536) (hc : 0 ≤ c ∧ c < 65536) (hd : 0 ≤ d ∧ d < 65536) : octs (hiOf a b c d) 8 = two a ++ (two b ++ (two c ++ two d)) := by
  show [hiOf a b c d / 2 ^ 56 % 256, hiOf a b c d / 2 ^ 48 % 256, hiOf a b c d / 2 ^ 40 % 256, hiOf a b c d / 2 ^ 32 % 256, hiOf a b c d / 2 ^ 24 % 256, hiOf a b c d / 2 ^ 16 % 256, hiOf a b c d / 2 ^ 8 % 256, hiOf a b c d / 2 ^ 0 % 256] = [a / 256, a % 256, b / 256, b % 256, c / 256, c % 256, d / 256, d % 256]
  simp only [Int.reducePow, Int.ediv_one]
  obtain ⟨n, hn⟩ : ∃ n, n = hiOf a b c d := ⟨_, rfl⟩
  rw [← hn]
  unfold hiOf at hn
  rw [show n / 72057594037927936 % 256 = a / 256 by omega, show n / 281474976710656 % 256 = a % 256 by omega, show n / 1099511627776 % 256 = b / 256 by omega, show n / 4294967296 % 256 = b % 256 by omega, show n / 16777216 % 256 = c / 256 by omega, show n / 65536 % 256 = c % 256 by omega, show n / 256 % 256 = d / 256 by omega, show n % 256 = d % 256 by omega]
theorem wAcc_step (xs : List Int) (n : Nat) (l : List Int) (x : Int) (hx : xs.getD n 0 = x) (h : wAcc xs n = strOfNums l) : wAcc xs (n + 1) = strOfNums (l ++ two x) := by
  rw [wAcc, h, hx, nums_app]
  rfl
theorem join_snoc (L : List (List UInt8)) (x : List UInt8) (h : L ≠ []) : Lib.join (L ++ [x]) [58] = Lib.join L [58] ++ 58 :: x := by
  cases L with
  | nil => exact absurd rfl h
  | cons a t => simp [join_cons, joinTail]
theorem sAcc_step (wide : Bool) (xs : List Int) (n : Nat) (L : List (List UInt8)) (x : Int) (hn : 0 < n) (hL : L ≠ []) (hx : xs.getD n 0 = x) (hr : 0 ≤ x ∧ x < 65536) (h : sAcc wide xs n = mkB (Lib.join L [58])) : sAcc wide xs (n + 1) = mkB (Lib.join (L ++ [gx wide x]) [58]) := by
  rw [sAcc, if_pos hn, h, hx, gOf_eq wide hr, show (⟨#[58]⟩ : ByteArray) = mkB [58] from rfl, mkB_app, mkB_app, join_snoc L _ hL, List.append_assoc]
  rfl
theorem accs (wide : Bool) (a0 a1 a2 a3 a4 a5 a6 a7 : Int) (h : ∀ x ∈ [a0, a1, a2, a3, a4, a5, a6, a7], 0 ≤ x ∧ x < 65536) :
    sAcc wide [a0, a1, a2, a3, a4, a5, a6, a7] 8 = mkB (gts ([a0, a1, a2, a3, a4, a5, a6, a7].map fun x => (gx wide x, x))) ∧ wAcc [a0, a1, a2, a3, a4, a5, a6, a7] 8 = strOfNums (octsOf true (hiOf a0 a1 a2 a3) (hiOf a4 a5 a6 a7)) := by
  have b0 := h a0 (by simp)
  have b1 := h a1 (by simp)
  have b2 := h a2 (by simp)
  have b3 := h a3 (by simp)
  have b4 := h a4 (by simp)
  have b5 := h a5 (by simp)
  have b6 := h a6 (by simp)
  have b7 := h a7 (by simp)
  obtain ⟨xs, hxs⟩ : ∃ l, l = [a0, a1, a2, a3, a4, a5, a6, a7] := ⟨_, rfl⟩
  have d0 : xs.getD 0 0 = a0 := by rw [hxs]; rfl
  have d1 : xs.getD 1 0 = a1 := by rw [hxs]; rfl
  have d2 : xs.getD 2 0 = a2 := by rw [hxs]; rfl
  have d3 : xs.getD 3 0 = a3 := by rw [hxs]; rfl
  have d4 : xs.getD 4 0 = a4 := by rw [hxs]; rfl
  have d5 : xs.getD 5 0 = a5 := by rw [hxs]; rfl
  have d6 : xs.getD 6 0 = a6 := by rw [hxs]; rfl
  have d7 : xs.getD 7 0 = a7 := by rw [hxs]; rfl
  constructor
  · have s1 : sAcc wide xs 1 = mkB (Lib.join [gx wide a0] [58]) := by
      rw [sAcc, if_neg (by decide), d0, gOf_eq wide b0, show sAcc wide xs 0 = mkB [] from rfl, mkB_app, join_cons]
      simp [joinTail]
    have s2 := sAcc_step wide xs 1 _ a1 (by decide) (by simp) d1 b1 s1
    have s3 := sAcc_step wide xs 2 _ a2 (by decide) (by simp) d2 b2 s2
    have s4 := sAcc_step wide xs 3 _ a3 (by decide) (by simp) d3 b3 s3
    have s5 := sAcc_step wide xs 4 _ a4 (by decide) (by simp) d4 b4 s4
    have s6 := sAcc_step wide xs 5 _ a5 (by decide) (by simp) d5 b5 s5
    have s7 := sAcc_step wide xs 6 _ a6 (by decide) (by simp) d6 b6 s6
    have s8 := sAcc_step wide xs 7 _ a7 (by decide) (by simp) d7 b7 s7
    rw [← hxs, s8]
    unfold gts
    rw [List.map_map, hxs]
    rfl
  · have w0 : wAcc xs 0 = strOfNums [] := rfl
    have w1 := wAcc_step xs 0 _ a0 d0 w0
    have w2 := wAcc_step xs 1 _ a1 d1 w1
    have w3 := wAcc_step xs 2 _ a2 d2 w2
    have w4 := wAcc_step xs 3 _ a3 d3 w3
    have w5 := wAcc_step xs 4 _ a4 d4 w4
    have w6 := wAcc_step xs 5 _ a5 d5 w5
    have w7 := wAcc_step xs 6 _ a6 d6 w6
    have w8 := wAcc_step xs 7 _ a7 d7 w7
    rw [← hxs, w8]
    unfold octsOf
    rw [if_pos rfl, octs_hiOf b0 b1 b2 b3, octs_hiOf b4 b5 b6 b7]
    simp only [List.append_assoc, List.nil_append]
/-- The law's call, whatever the memory. -/
theorem calls_row (a0 a1 a2 a3 a4 a5 a6 a7 : Int) (wide : Bool) (W : World) (hG : G W) (h : ∀ x ∈ [a0, a1, a2, a3, a4, a5, a6, a7], 0 ≤ x ∧ x < 65536) :
    Calls Tryd.prog 5 #[.agg #[.int .u16 a0, .int .u16 a1, .int .u16 a2, .int .u16 a3, .int .u16 a4, .int .u16 a5, .int .u16 a6, .int .u16 a7], .bool wide] W fun e w' => e = .returned (.bool true) ∧ Below W.heap.size W w' := by
  have hv := cut_hiOf a0 a1 a2 a3 a4 a5 a6 a7 h
  obtain ⟨e1, e2⟩ := accs wide a0 a1 a2 a3 a4 a5 a6 a7 h
  have b0 := h a0 (by simp)
  have b1 := h a1 (by simp)
  have b2 := h a2 (by simp)
  have b3 := h a3 (by simp)
  have b4 := h a4 (by simp)
  have b5 := h a5 (by simp)
  have b6 := h a6 (by simp)
  have b7 := h a7 (by simp)
  have hh := hiOf_rng b0 b1 b2 b3
  have hl := hiOf_rng b4 b5 b6 b7
  have hlen := len_gts wide [a0, a1, a2, a3, a4, a5, a6, a7] rfl
  generalize hiOf a0 a1 a2 a3 = hi at *
  generalize hiOf a4 a5 a6 a7 = lo at *
  have hok : ok2 true hi lo := ⟨hh.1, hh.2, hl.1, hl.2, .inl rfl⟩
  have hread := read_groups 383 ([a0, a1, a2, a3, a4, a5, a6, a7].map fun x => (gx wide x, x)) (by
    intro p hp
    obtain ⟨x, hx, rfl⟩ := List.mem_map.1 hp
    exact gx_grp wide (h x hx)) hi lo hh.1 hh.2 hl.1 hl.2 (by rw [hv, List.map_map]; exact List.map_id _)
  have hoct := octets_ok hok 391
  obtain ⟨t, t1, t2, _, t4⟩ := read_text true hi lo hok 383
  have tl := text_len 383 hi lo hh.1 hh.2 hl.1 hl.2 t t1
  rw [hv] at tl
  refine groups_walk 400 a0 a1 a2 a3 a4 a5 a6 a7 _ rfl h wide hi lo _ _ (mkB t) rfl rfl W hG lives_true ?_ ?_ t1 t2 ?_
  · rw [e1]; exact hread
  · rw [e2]; exact hoct
  · rw [e1, mkB_size, mkB_size, hlen]
    cases wide
    · rw [if_neg (by decide)]; exact tl
    · rw [if_pos rfl]; exact t4
end Go.Proofs.YtilobbjnmnnmnaaDoor.AddrFns
