/- This text proves what the law AddrReverses asks: a name in the other direction has the octets' digits, the last one first; an address of the other kind has another one. Condition: the listed variables of Go's library read as they are laid. -/
import Derived.Test.YtilobbjnmnnmnaaGreatDoorORevx5
import Derived.Laws.Bits64b
import Derived.Test.YtilobbjnmnnmnaaGreatDoorNames
set_option linter.unusedSimpArgs false
set_option linter.unusedVariables false
namespace Go.Proofs.YtilobbjnmnnmnaaGreatDoor.AddrFns
open Go.RowKit Go.Lib Go.Proofs.YtilobbjnmnnmnaaGreatDoor.ORev Go.Proofs.YtilobbjnmnnmnaaGreatDoor.AddrLib Go.Proofs.YtilobbjnmnnmnaaGreatDoorW.PrintWords Go.Proofs.YtilobbjnmnnmnaaGreatDoorW.PrintLast Go.Proofs.YtilobbjnmnnmnaaGreatDoorW.PrintMore

theorem wr_u64 (n : Int) (h0 : 0 ≤ n) (h1 : n < 18446744073709551616) : IntKind.u64.wrap n = n := by
  simp [IntKind.wrap, IntKind.bits, IntKind.signed]
  omega
theorem wr_u16 (n : Int) : IntKind.u16.wrap n = n % 65536 := by
  simp [IntKind.wrap, IntKind.bits, IntKind.signed]
theorem or_add (n c : Int) (j : Nat) (B : Int) (hB : B = 2 ^ j) (h0 : 0 ≤ n) (h1 : n * B < 18446744073709551616) (c0 : 0 ≤ c) (c1 : c < B) (hs : n * B + c < 18446744073709551616) :
    Go.bits .or .u64 (IntKind.u64.wrap (n * B)) (IntKind.u64.wrap c) = n * B + c := by
  obtain ⟨n, rfl⟩ := Int.eq_ofNat_of_zero_le h0
  obtain ⟨c, rfl⟩ := Int.eq_ofNat_of_zero_le c0
  have hBn : B = ((2 ^ j : Nat) : Int) := by rw [hB]; push_cast; rfl
  have e : (n : Int) * B = ((n * 2 ^ j : Nat) : Int) := by rw [hBn]; push_cast; rfl
  rw [wr_u64 _ (by rw [e]; omega) h1, wr_u64 _ c0 (by rw [e] at hs; omega), e]
  rw [e] at h1 hs
  have hc : c < 2 ^ j := by rw [hBn] at c1; omega
  rw [bits_or_u64_nat (n * 2 ^ j) c (by omega) (by omega), ← Nat.shiftLeft_eq, ← Nat.shiftLeft_add_eq_or_of_lt hc, Nat.shiftLeft_eq]
  push_cast
  rfl
/-! ### Eight groups are a number -/
theorem wrap_small (i : Nat) (h : i < 1000) : wrap64 ((i : Int) + 1) = ((i + 1 : Nat) : Int) := by unfold wrap64; omega
theorem of_step (k : Nat) (l : List Int) (i : Nat) (b : Bool) (hi lo : Int) (h8 : l.length = 8) (hi8 : i < 8) (x : Int) (hx : l.getD i 0 = x) (x0 : 0 ≤ x) (x1 : x < 65536) :
    addr_of.l0 (k + 1) l 8 i b hi lo = if (i : Int) < 4 then addr_of.l0 k l 8 ((i + 1 : Nat) : Int) b (Go.bits .or .u64 (IntKind.u64.wrap (hi * 65536)) (IntKind.u64.wrap x)) lo else addr_of.l0 k l 8 ((i + 1 : Nat) : Int) b hi (Go.bits .or .u64 (IntKind.u64.wrap (lo * 65536)) (IntKind.u64.wrap x)) := by
  have hr : rd l (i : Int) = x := by unfold rd; rw [Int.toNat_natCast, hx]
  rw [addr_of.l0, if_pos (by omega), if_pos (by omega), if_pos (by rw [h8]; omega), hr, wrap_small i (by omega)]
theorem of_eq (k : Nat) (a0 a1 a2 a3 a4 a5 a6 a7 : Int) (h : ∀ x ∈ [a0, a1, a2, a3, a4, a5, a6, a7], 0 ≤ x ∧ x < 65536) :
    addr_of.f (k + 9) [a0, a1, a2, a3, a4, a5, a6, a7] = some (true, ((a0 * 65536 + a1) * 65536 + a2) * 65536 + a3, ((a4 * 65536 + a5) * 65536 + a6) * 65536 + a7) := by
  obtain ⟨l, hl⟩ : ∃ l, l = [a0, a1, a2, a3, a4, a5, a6, a7] := ⟨_, rfl⟩
  have h8 : l.length = 8 := by rw [hl]; rfl
  have b0 := h a0 (by simp); have b1 := h a1 (by simp); have b2 := h a2 (by simp); have b3 := h a3 (by simp); have b4 := h a4 (by simp); have b5 := h a5 (by simp); have b6 := h a6 (by simp); have b7 := h a7 (by simp)
  rw [← hl]
  unfold addr_of.f
  rw [h8]
  have st := fun k i hi8 x hx x0 x1 hh ll => of_step k l i true hh ll h8 hi8 x hx x0 x1
  have z : ∀ x : Int, 0 ≤ x → x < 65536 → Go.bits .or .u64 (IntKind.u64.wrap (0 * 65536)) (IntKind.u64.wrap x) = x := fun x x0 x1 => by
    rw [or_add 0 x 16 65536 (by decide) (by decide) (by decide) x0 x1 (by omega)]; omega
  have orr : ∀ n x : Int, 0 ≤ n → n < 281474976710656 → 0 ≤ x → x < 65536 → Go.bits .or .u64 (IntKind.u64.wrap (n * 65536)) (IntKind.u64.wrap x) = n * 65536 + x := fun n x n0 n1 x0 x1 =>
    or_add n x 16 65536 (by decide) n0 (by omega) x0 x1 (by omega)
  have e0 := st (k + 8) 0 (by decide) a0 (by rw [hl]; rfl) b0.1 b0.2 0 0
  rw [if_pos (by decide), z a0 b0.1 b0.2] at e0
  have e1 := st (k + 7) 1 (by decide) a1 (by rw [hl]; rfl) b1.1 b1.2 a0 0
  rw [if_pos (by decide), orr a0 a1 b0.1 (by omega) b1.1 b1.2] at e1
  have e2 := st (k + 6) 2 (by decide) a2 (by rw [hl]; rfl) b2.1 b2.2 (a0 * 65536 + a1) 0
  rw [if_pos (by decide), orr _ a2 (by omega) (by omega) b2.1 b2.2] at e2
  have e3 := st (k + 5) 3 (by decide) a3 (by rw [hl]; rfl) b3.1 b3.2 ((a0 * 65536 + a1) * 65536 + a2) 0
  rw [if_pos (by decide), orr _ a3 (by omega) (by omega) b3.1 b3.2] at e3
  have e4 := st (k + 4) 4 (by decide) a4 (by rw [hl]; rfl) b4.1 b4.2 (((a0 * 65536 + a1) * 65536 + a2) * 65536 + a3) 0
  rw [if_neg (by decide), z a4 b4.1 b4.2] at e4
  have e5 := st (k + 3) 5 (by decide) a5 (by rw [hl]; rfl) b5.1 b5.2 (((a0 * 65536 + a1) * 65536 + a2) * 65536 + a3) a4
  rw [if_neg (by decide), orr a4 a5 b4.1 (by omega) b5.1 b5.2] at e5
  have e6 := st (k + 2) 6 (by decide) a6 (by rw [hl]; rfl) b6.1 b6.2 (((a0 * 65536 + a1) * 65536 + a2) * 65536 + a3) (a4 * 65536 + a5)
  rw [if_neg (by decide), orr _ a6 (by omega) (by omega) b6.1 b6.2] at e6
  have e7 := st (k + 1) 7 (by decide) a7 (by rw [hl]; rfl) b7.1 b7.2 (((a0 * 65536 + a1) * 65536 + a2) * 65536 + a3) ((a4 * 65536 + a5) * 65536 + a6)
  rw [if_neg (by decide), orr _ a7 (by omega) (by omega) b7.1 b7.2] at e7
  show addr_of.l0 (k + 8 + 1) l 8 ((0 : Nat) : Int) true 0 0 = _
  rw [e0]
  show addr_of.l0 (k + 7 + 1) l 8 ((1 : Nat) : Int) true a0 0 = _
  rw [e1]
  show addr_of.l0 (k + 6 + 1) l 8 ((2 : Nat) : Int) true _ 0 = _
  rw [e2]
  show addr_of.l0 (k + 5 + 1) l 8 ((3 : Nat) : Int) true _ 0 = _
  rw [e3]
  show addr_of.l0 (k + 4 + 1) l 8 ((4 : Nat) : Int) true _ 0 = _
  rw [e4]
  show addr_of.l0 (k + 3 + 1) l 8 ((5 : Nat) : Int) true _ a4 = _
  rw [e5]
  show addr_of.l0 (k + 2 + 1) l 8 ((6 : Nat) : Int) true _ _ = _
  rw [e6]
  show addr_of.l0 (k + 1 + 1) l 8 ((7 : Nat) : Int) true _ _ = _
  rw [e7, addr_of.l0, if_neg (by decide)]
theorem cut_rng (hi lo : Int) : ∀ x ∈ cutL hi lo, 0 ≤ x ∧ x < 65536 := by
  intro x hx
  unfold cutL g16 at hx
  simp only [wr_u16, List.mem_cons, List.not_mem_nil, or_false] at hx
  rcases hx with rfl | rfl | rfl | rfl | rfl | rfl | rfl | rfl <;> omega
theorem of_cut (k : Nat) (hi lo : Int) (h0 : 0 ≤ hi) (h1 : hi < 18446744073709551616) (l0 : 0 ≤ lo) (l1 : lo < 18446744073709551616) : addr_of.f (k + 9) (cutL hi lo) = some (true, hi, lo) := by
  have h := of_eq k (g16 hi 3) (g16 hi 2) (g16 hi 1) (g16 hi 0) (g16 lo 3) (g16 lo 2) (g16 lo 1) (g16 lo 0) (cut_rng hi lo)
  refine h.trans ?_
  unfold g16
  simp only [wr_u16]
  have e1 : ((hi / 281474976710656 % 65536 * 65536 + hi / 4294967296 % 65536) * 65536 + hi / 65536 % 65536) * 65536 + hi % 65536 = hi := by omega
  have e2 : ((lo / 281474976710656 % 65536 * 65536 + lo / 4294967296 % 65536) * 65536 + lo / 65536 % 65536) * 65536 + lo % 65536 = lo := by omega
  rw [e1, e2]
/-! ### The longest run of noughts is one -/
def nought (l : List Int) (a b : Int) : Prop := ∀ j : Nat, a ≤ (j : Int) → (j : Int) < b → l.getD j 0 = 0
theorem zL_ok (l : List Int) : ∀ (t : List Int) (p : Nat) (f n k : Int), l.drop p = t → 0 ≤ f → 0 ≤ n → f + n ≤ p → nought l f (f + n) → 0 ≤ k → k ≤ p → nought l (p - k) p →
    0 ≤ (zL t p f n k).1 ∧ 0 ≤ (zL t p f n k).2 ∧ (zL t p f n k).1 + (zL t p f n k).2 ≤ p + t.length ∧ nought l (zL t p f n k).1 ((zL t p f n k).1 + (zL t p f n k).2) := by
  intro t
  induction t with
  | nil => intro p f n k _ h1 h2 h3 h4 _ _ _; unfold zL; simp only [List.length_nil]; exact ⟨h1, h2, by omega, h4⟩
  | cons x t ih =>
    intro p f n k hd h1 h2 h3 h4 h5 h6 h7
    have hx : l.getD p 0 = x := by
      rw [List.getD_eq_getElem?_getD, ← List.head?_drop, hd]; rfl
    have hd2 : l.drop (p + 1) = t := by rw [← List.drop_drop, hd]; rfl
    have ih := fun f n k => ih (p + 1) f n k hd2
    rw [show ((p + 1 : Nat) : Int) = (p : Int) + 1 by omega] at ih
    unfold zL
    rw [List.length_cons]
    by_cases c : x = 0
    · rw [if_pos c]
      have hn : nought l ((p : Int) - k) (p + 1) := fun j a b => by
        by_cases e : (j : Int) < p
        · exact h7 j a e
        · have : j = p := by omega
          rw [this, hx, c]
      by_cases d : n < k + 1
      · rw [if_pos d]
        have := ih (p + 1 - (k + 1)) (k + 1) (k + 1) (by omega) (by omega) (by omega) (by rw [show ((p : Int) + 1 - (k + 1)) + (k + 1) = p + 1 by omega, show (p : Int) + 1 - (k + 1) = p - k by omega]; exact hn) (by omega) (by omega) (by rw [show (p : Int) + 1 - (k + 1) = p - k by omega]; exact hn)
        exact ⟨this.1, this.2.1, by have := this.2.2.1; omega, this.2.2.2⟩
      · rw [if_neg d]
        have := ih f n (k + 1) h1 h2 (by omega) h4 (by omega) (by omega) (by rw [show (p : Int) + 1 - (k + 1) = p - k by omega]; exact hn)
        exact ⟨this.1, this.2.1, by have := this.2.2.1; omega, this.2.2.2⟩
    · rw [if_neg c, if_neg (by omega)]
      have := ih f n 0 h1 h2 (by omega) h4 (by omega) (by omega) (fun j a b => by omega)
      exact ⟨this.1, this.2.1, by have := this.2.2.1; omega, this.2.2.2⟩
theorem zL_whole (l : List Int) : ∃ f n : Nat, zL l 0 0 0 0 = ((f : Int), (n : Int)) ∧ f + n ≤ l.length ∧ l = l.take f ++ List.replicate n 0 ++ l.drop (f + n) := by
  have h := zL_ok l l 0 0 0 0 rfl (by decide) (by decide) (by decide) (fun j a b => by omega) (by decide) (by decide) (fun j a b => by omega)
  obtain ⟨h1, h2, h3, h4⟩ := h
  obtain ⟨f, hf⟩ := Int.eq_ofNat_of_zero_le h1
  obtain ⟨n, hn⟩ := Int.eq_ofNat_of_zero_le h2
  rw [show ((0 : Nat) : Int) = 0 from rfl] at h1 h2 h3 h4 hf hn
  rw [hf, hn] at h3 h4
  refine ⟨f, n, Prod.ext hf hn, by omega, ?_⟩
  have hr : (l.drop f).take n = List.replicate n 0 := by
    refine List.eq_replicate_iff.2 ⟨by rw [List.length_take, List.length_drop]; omega, fun b hb => ?_⟩
    obtain ⟨i, hi, rfl⟩ := List.getElem_of_mem hb
    rw [List.length_take, List.length_drop] at hi
    have := h4 (f + i) (by omega) (by omega)
    rw [List.getD_eq_getElem?_getD, List.getElem?_eq_getElem (by omega)] at this
    rw [List.getElem_take, List.getElem_drop]
    exact this
  rw [← hr, List.append_assoc, ← List.drop_drop, List.take_append_drop, List.take_append_drop]
end Go.Proofs.YtilobbjnmnnmnaaGreatDoor.AddrFns
set_option linter.unusedSimpArgs false
set_option linter.unusedVariables false
namespace Go.Proofs.YtilobbjnmnnmnaaGreatDoor.AddrFns
open Go.RowKit Go.Lib Go.Proofs.YtilobbjnmnnmnaaGreatDoor.ORev Go.Proofs.YtilobbjnmnnmnaaGreatDoor.AddrLib Go.Proofs.YtilobbjnmnnmnaaGreatDoorW.PrintWords Go.Proofs.YtilobbjnmnnmnaaGreatDoorW.PrintLast Go.Proofs.YtilobbjnmnnmnaaGreatDoorW.PrintMore

/-! ### Base 10 -/
def decL (u : Nat) : List UInt8 :=
  if u < 10 then [UInt8.ofNat (48 + u)] else if u < 100 then [UInt8.ofNat (48 + u / 10), UInt8.ofNat (48 + u % 10)] else [UInt8.ofNat (48 + u / 100), UInt8.ofNat (48 + u / 10 % 10), UInt8.ofNat (48 + u % 10)]
theorem dec_eq (u : Nat) (h : u < 1000) : decDigits u = decL u := by
  have one : ∀ v, v < 10 → decDigits v = [UInt8.ofNat (48 + v)] := fun v hv => by rw [decDigits, dif_pos hv]
  have two : ∀ v, ¬ v < 10 → v < 100 → decDigits v = [UInt8.ofNat (48 + v / 10), UInt8.ofNat (48 + v % 10)] := fun v h1 h2 => by
    rw [decDigits, dif_neg h1, one (v / 10) (by omega)]; rfl
  unfold decL
  by_cases c : u < 10
  · rw [if_pos c, one u c]
  · rw [if_neg c]
    by_cases d : u < 100
    · rw [if_pos d, two u c d]
    · rw [if_neg d, decDigits, dif_neg c, two (u / 10) (by omega) (by omega), show u / 10 / 10 = u / 100 by omega]
      rfl
theorem itoa_eq (x : Int) (h0 : 0 ≤ x) (h1 : x < 1000) : itoa x = decL x.toNat := by
  unfold itoa
  rw [if_neg (by omega), dec_eq _ (by omega)]
def decOk (u : Nat) : Bool := (numP 3 10 (mkB (decL u)) == some ((u : Int), true)) && !(badO ((u : Int), true) (mkB (decL u))) && (decL u).all (fun b => b != 46 && b != 47 && b != 58) && decide (1 ≤ (decL u).length ∧ (decL u).length ≤ 3)
theorem dec_tab : ∀ u : Fin 256, decOk u.val = true := by decide +kernel
theorem dec_fact (u : Nat) (h : u < 256) : numP 3 10 (mkB (decL u)) = some ((u : Int), true) ∧ badO ((u : Int), true) (mkB (decL u)) = false ∧ (46 : UInt8) ∉ decL u ∧ (47 : UInt8) ∉ decL u ∧ (58 : UInt8) ∉ decL u ∧ 1 ≤ (decL u).length ∧ (decL u).length ≤ 3 := by
  have t := dec_tab ⟨u, h⟩
  unfold decOk at t
  simp only [Bool.and_eq_true, beq_iff_eq, Bool.not_eq_true', List.all_eq_true, bne_iff_ne, decide_eq_true_eq] at t
  obtain ⟨⟨⟨t1, t2⟩, t3⟩, t4, t5⟩ := t
  exact ⟨t1, t2, fun hb => (t3 _ hb).1.1 rfl, fun hb => (t3 _ hb).1.2 rfl, fun hb => (t3 _ hb).2 rfl, t4, t5⟩
theorem count_none {c : UInt8} {s : ByteArray} (h : c ∉ s.data.toList) : countB s (oneS c) = 0 := countB_miss s (oneS c) (index1_none h)
theorem elder_none (k : Nat) (s : ByteArray) (hs : s.size ≤ 100000) (h : (46 : UInt8) ∉ s.data.toList) : addr_elder.f k s = some (false, 0, 0, false) := by
  unfold addr_elder.f elderF
  rw [if_pos hs, count_none h, if_neg (by decide)]
theorem whole_step (k : Nat) (l : List Int) (i : Nat) (n x : Int) (h4 : l.length = 4) (hi : i < 4) (hx : l.getD i 0 = x) (x0 : 0 ≤ x) (x1 : x < 256) (n0 : 0 ≤ n) (n1 : n < 16777216) :
    addr_whole.l0 (k + 1) n l 4 i = addr_whole.l0 k (n * 256 + x) l 4 ((i + 1 : Nat) : Int) := by
  have hr : rd l (i : Int) = x := by unfold rd; rw [Int.toNat_natCast, hx]
  rw [addr_whole.l0, if_pos (by omega), if_pos (by omega), if_pos (by rw [h4]; omega), hr, wrap_small i (by omega), or_add n x 8 256 (by decide) n0 (by omega) x0 x1 (by omega)]
theorem four_eq (k : Nat) (a b c d : Int) (ha : 0 ≤ a ∧ a < 256) (hb : 0 ≤ b ∧ b < 256) (hc : 0 ≤ c ∧ c < 256) (hd : 0 ≤ d ∧ d < 256) :
    addr_Four.f (k + 5) a b c d = some (false, 0, ((a * 256 + b) * 256 + c) * 256 + d) := by
  unfold addr_Four.f addr_whole.f
  obtain ⟨l, hl⟩ : ∃ l, l = [a, b, c, d] := ⟨_, rfl⟩
  have h4 : l.length = 4 := by rw [hl]; rfl
  rw [← hl, h4]
  have e0 := whole_step (k + 4) l 0 0 a h4 (by decide) (by rw [hl]; rfl) ha.1 ha.2 (by decide) (by decide)
  rw [show (0 : Int) * 256 + a = a by omega] at e0
  have e1 := whole_step (k + 3) l 1 a b h4 (by decide) (by rw [hl]; rfl) hb.1 hb.2 ha.1 (by omega)
  have e2 := whole_step (k + 2) l 2 (a * 256 + b) c h4 (by decide) (by rw [hl]; rfl) hc.1 hc.2 (by omega) (by omega)
  have e3 := whole_step (k + 1) l 3 ((a * 256 + b) * 256 + c) d h4 (by decide) (by rw [hl]; rfl) hd.1 hd.2 (by omega) (by omega)
  rw [show addr_whole.l0 (k + 5) 0 l ((4 : Nat) : Int) 0 = addr_whole.l0 (k + 4) a l 4 ((0 + 1 : Nat) : Int) from e0, show addr_whole.l0 (k + 4) a l 4 ((0 + 1 : Nat) : Int) = _ from e1, show addr_whole.l0 (k + 3) _ l 4 ((1 + 1 : Nat) : Int) = _ from e2, show addr_whole.l0 (k + 2) _ l 4 ((2 + 1 : Nat) : Int) = _ from e3, addr_whole.l0, if_neg (by decide), Option.bind_some]
/-- A dotted quad is read. -/
theorem elder_quad (k : Nat) (lo : Int) (l0 : 0 ≤ lo) (l1 : lo < 4294967296) :
    (join ((quad lo).map (·.data.toList)) [46]).length ≤ 15 ∧ (47 : UInt8) ∉ join ((quad lo).map (·.data.toList)) [46] ∧ addr_elder.f (k + 5) (mkB (join ((quad lo).map (·.data.toList)) [46])) = some (false, 0, lo, true) := by
  obtain ⟨L, hL⟩ : ∃ L, L = [decL (lo / 16777216 % 256).toNat, decL (lo / 65536 % 256).toNat, decL (lo / 256 % 256).toNat, decL (lo % 256).toNat] := ⟨_, rfl⟩
  have hq : (quad lo).map (·.data.toList) = L := by
    rw [hL]
    unfold quad
    simp only [List.map_cons, List.map_nil, mkB_data]
    rw [itoa_eq _ (by omega) (by omega), itoa_eq _ (by omega) (by omega), itoa_eq _ (by omega) (by omega), itoa_eq _ (by omega) (by omega)]
  rw [hq]
  have fa := dec_fact (lo / 16777216 % 256).toNat (by omega)
  have fb := dec_fact (lo / 65536 % 256).toNat (by omega)
  have fc := dec_fact (lo / 256 % 256).toNat (by omega)
  have fd := dec_fact (lo % 256).toNat (by omega)
  have hno : ∀ x ∈ L, (46 : UInt8) ∉ x ∧ (47 : UInt8) ∉ x := by
    intro x hx
    rw [hL] at hx
    simp only [List.mem_cons, List.not_mem_nil, or_false] at hx
    rcases hx with rfl | rfl | rfl | rfl
    · exact ⟨fa.2.2.1, fa.2.2.2.1⟩
    · exact ⟨fb.2.2.1, fb.2.2.2.1⟩
    · exact ⟨fc.2.2.1, fc.2.2.2.1⟩
    · exact ⟨fd.2.2.1, fd.2.2.2.1⟩
  have hlen : (join L [46]).length ≤ 15 := by
    rw [hL, join_length]
    simp only [lens, List.map_cons, List.map_nil, List.sum_cons, List.sum_nil, List.length_cons, List.length_nil]
    have := fa.2.2.2.2.2.2; have := fb.2.2.2.2.2.2; have := fc.2.2.2.2.2.2; have := fd.2.2.2.2.2.2
    omega
  refine ⟨hlen, ?_, ?_⟩
  · rw [hL] at hno ⊢
    rw [join_cons]
    simp only [joinTail, List.map_cons, List.map_nil, List.flatten_cons, List.flatten_nil, List.mem_append, List.mem_cons, List.not_mem_nil, or_false, not_or]
    exact ⟨fa.2.2.2.1, ⟨by decide, fb.2.2.2.1⟩, ⟨by decide, fc.2.2.2.1⟩, by decide, fd.2.2.2.1⟩
  · have hsp : splitB (oneS 46) 0 (countB (mkB (join L [46])) (oneS 46)) (mkB (join L [46])) = L.map mkB := by
      rw [splitB_list, mkB_data, split_join 46 L (by rw [hL]; simp) (fun x hx => (hno x hx).1)]
    have hcnt := splitB_all (oneS 46) (Nat.le_refl _) 0 _ (mkB (join L [46])) rfl
    rw [hsp, List.length_map, hL, List.length_cons, List.length_cons, List.length_cons, List.length_cons, List.length_nil, ← hL] at hcnt
    unfold addr_elder.f elderF
    rw [if_pos (by rw [mkB_size]; omega), if_pos (by omega), hsp, hL]
    simp only [List.map_cons, List.map_nil]
    have st : ∀ (u : Nat) (t : List ByteArray) (acc : List Int), u < 256 → elderK (addr_Four.f (k + 5)) (mkB (decL u) :: t) acc = elderK (addr_Four.f (k + 5)) t (acc ++ [(u : Int)]) := fun u t acc hu => by
      have f := dec_fact u hu
      rw [elderK, f.1, Option.bind_some, f.2.1, if_neg (by decide)]
    rw [st _ _ _ (by omega), st _ _ _ (by omega), st _ _ _ (by omega), st _ _ _ (by omega)]
    show (addr_Four.f (k + 5) _ _ _ _).bind _ = _
    rw [four_eq k _ _ _ _ ⟨by omega, by omega⟩ ⟨by omega, by omega⟩ ⟨by omega, by omega⟩ ⟨by omega, by omega⟩, Option.bind_some]
    have e : ((((lo / 16777216 % 256).toNat : Int) * 256 + ((lo / 65536 % 256).toNat : Int)) * 256 + ((lo / 256 % 256).toNat : Int)) * 256 + ((lo % 256).toNat : Int) = lo := by
      rw [Int.toNat_of_nonneg (by omega), Int.toNat_of_nonneg (by omega), Int.toNat_of_nonneg (by omega), Int.toNat_of_nonneg (by omega)]
      omega
    simp only
    rw [e]
end Go.Proofs.YtilobbjnmnnmnaaGreatDoor.AddrFns
set_option linter.unusedSimpArgs false
set_option linter.unusedVariables false
namespace Go.Proofs.YtilobbjnmnnmnaaGreatDoor.AddrFns
open Go.RowKit Go.Lib Go.Proofs.YtilobbjnmnnmnaaGreatDoor.ORev Go.Proofs.YtilobbjnmnnmnaaGreatDoor.AddrLib Go.Proofs.YtilobbjnmnnmnaaGreatDoorW.PrintWords Go.Proofs.YtilobbjnmnnmnaaGreatDoorW.PrintLast Go.Proofs.YtilobbjnmnnmnaaGreatDoorW.PrintMore

/-- A group's text. -/
def hx (x : Int) : List UInt8 := hexL x.toNat
def rng (l : List Int) : Prop := ∀ x ∈ l, 0 ≤ x ∧ x < 65536
def tx (l : List Int) : List UInt8 := join (l.map hx) [58]
theorem hx_ok {l : List Int} (h : rng l) : okG (l.map hx) := by
  intro y hy
  obtain ⟨x, hx', rfl⟩ := List.mem_map.1 hy
  have := h x hx'
  refine ⟨fun hb => (hexL_mem (u := x.toNat) (by omega) 58 hb).2.1 rfl, fun e => ?_⟩
  have := (hexL_len x.toNat).1
  unfold hx at e
  rw [e] at this
  exact absurd this (by decide)
theorem joinTail_len (l : List Int) : (joinTail [58] (l.map hx)).length ≤ 5 * l.length := by
  induction l with
  | nil => simp [joinTail]
  | cons x t ih =>
    have := (hexL_len x.toNat).2
    unfold joinTail at ih ⊢
    unfold hx at ih ⊢
    simp only [List.map_cons, List.flatten_cons, List.length_append, List.length_cons, List.length_nil, List.map_map] at ih ⊢
    omega
theorem tx_len (l : List Int) : (tx l).length ≤ 5 * l.length := by
  unfold tx
  cases l with
  | nil => simp [join_nil]
  | cons x t =>
    rw [List.map_cons, join_cons, List.length_append, List.length_cons]
    have := joinTail_len t
    have := (hexL_len x.toNat).2
    unfold hx at *
    omega
/-- Which octets there are: digits of base 16, and colons. -/
theorem tx_mem {l : List Int} (h : rng l) : ∀ b ∈ tx l, b ≠ 46 ∧ b ≠ 47 ∧ b.toNat < 128 := by
  have tail : ∀ t : List Int, rng t → ∀ b ∈ joinTail [58] (t.map hx), b ≠ 46 ∧ b ≠ 47 ∧ b.toNat < 128 := by
    intro t ht b hb
    unfold joinTail at hb
    rw [List.map_map, List.mem_flatten] at hb
    obtain ⟨y, hy, hb⟩ := hb
    obtain ⟨x, hx', rfl⟩ := List.mem_map.1 hy
    have hr := ht x hx'
    simp only [Function.comp, List.mem_append, List.mem_singleton] at hb
    rcases hb with rfl | hb
    · decide
    · have := hexL_mem (u := x.toNat) (by omega) b hb
      exact ⟨this.2.2.1, this.2.2.2.1, this.1⟩
  intro b hb
  unfold tx at hb
  cases l with
  | nil => simp [join_nil] at hb
  | cons x t =>
    rw [List.map_cons, join_cons, List.mem_append] at hb
    rcases hb with hb | hb
    · have hr := h x (by simp)
      have := hexL_mem (u := x.toNat) (by omega) b hb
      exact ⟨this.2.2.1, this.2.2.2.1, this.1⟩
    · exact tail t (fun y hy => h y (by simp [hy])) b hb
/-! ### addr.join -/
theorem rd_nat (l : List Int) (i : Nat) : rd l (i : Int) = l.getD i 0 := by unfold rd; rw [Int.toNat_natCast]
theorem join_loop (l : List Int) (h : rng l) (h8 : l.length ≤ 8) : ∀ (m k i : Nat), i + m = l.length →
    addr_join.l0 (k + m + 1) ((l.take i).map fun x => mkB (hx x)) l (l.length : Int) (i : Int) = some (mkB (tx l)) := by
  intro m
  induction m with
  | zero =>
    intro k i hi
    have e : i = l.length := by omega
    have hd : ((l.map fun x => mkB (hx x)).map fun b => b.data.toList) = l.map hx := by
      rw [List.map_map]
      exact List.map_congr_left fun x _ => mkB_data _
    have ht := tx_len l
    unfold tx at ht
    rw [addr_join.l0, if_neg (by omega), e, List.take_length]
    unfold strings_Join.f
    rw [hd, if_pos ⟨by rw [List.length_map]; omega, by show (join (l.map hx) [58]).length ≤ 100000; omega⟩, Option.bind_some]
    rfl
  | succ m ih =>
    intro k i hi
    have hlt : i < l.length := by omega
    have hr := h (l.getD i 0) (by rw [List.getD_eq_getElem?_getD, List.getElem?_eq_getElem hlt]; exact List.getElem_mem hlt)
    have hg : l.getD i 0 = l[i] := by rw [List.getD_eq_getElem?_getD, List.getElem?_eq_getElem hlt]; rfl
    rw [addr_join.l0, if_pos (by omega), if_pos (by omega), if_pos (by omega), rd_nat, wr_u64 _ hr.1 (by omega)]
    unfold strconv_FormatUint_103.f
    rw [if_pos ⟨rfl, hr.1, by omega⟩, Option.bind_some, if_pos (by rw [List.length_map, List.length_take]; omega), wrap_small i (by omega)]
    have e : ((l.take i).map fun x => mkB (hx x)) ++ [mkB (hexL (l.getD i 0).toNat)] = (l.take (i + 1)).map fun x => mkB (hx x) := by
      rw [List.take_succ_eq_append_getElem hlt, List.map_append, hg]; rfl
    rw [e, show k + (m + 1) = k + m + 1 by omega]
    exact ih k (i + 1) (by omega)
theorem join_eq (k : Nat) (l : List Int) (h : rng l) (h8 : l.length ≤ 8) : addr_join.f (k + 9) l = some (mkB (tx l)) := by
  unfold addr_join.f
  have := join_loop l h h8 l.length (k + (8 - l.length)) 0 (by omega)
  rw [show k + (8 - l.length) + l.length + 1 = k + 9 by omega] at this
  exact this
/-! ### addr.part -/
theorem num_hx {x : Int} (h : 0 ≤ x ∧ x < 65536) : addr_number.f (mkB (hx x)) 4 16 = some (x, true) := by
  unfold addr_number.f
  rw [if_pos ⟨.inr rfl, by decide⟩]
  have := numP_hex (u := x.toNat) (by omega)
  rw [Int.toNat_of_nonneg h.1] at this
  exact this
theorem wrapm (n : Nat) (h : n ≤ 8) : wrap64 ((n : Int) - 1) = (n : Int) - 1 := by unfold wrap64; omega
theorem part_loop (last : Bool) (l : List Int) (h : rng l) (h8 : l.length ≤ 8) : ∀ (m k i : Nat), i + m = l.length →
    addr_part.l0 (k + 2 * m + 1) last (l.take i) (l.map fun x => mkB (hx x)) (l.map fun x => mkB (hx x)) ((l.map fun x => mkB (hx x)).length : Int) (i : Int) = some (l, true) := by
  intro m
  induction m with
  | zero =>
    intro k i hi
    have e : i = l.length := by omega
    rw [addr_part.l0, if_neg (by rw [List.length_map]; omega), e, List.take_length]
  | succ m ih =>
    intro k i hi
    have hlt : i < l.length := by omega
    have hr := h l[i] (List.getElem_mem hlt)
    have hg : rdOf ByteArray.empty (l.map fun x => mkB (hx x)) (i : Int) = mkB (hx l[i]) := by
      unfold rdOf
      rw [Int.toNat_natCast, List.getD_eq_getElem?_getD, List.getElem?_map, List.getElem?_eq_getElem hlt]
      rfl
    have hel := elder_none (k + 2 * (m + 1)) (mkB (hx l[i])) (by rw [mkB_size]; have := (hexL_len l[i].toNat).2; unfold hx; omega) (by rw [mkB_data]; exact fun hb => (hexL_mem (u := l[i].toNat) (by omega) 46 hb).2.2.1 rfl)
    rw [addr_part.l0, if_pos (by rw [List.length_map]; omega), if_pos (by omega), if_pos (by rw [List.length_map]; omega), hg, hel, Option.bind_some, if_neg (by decide), show k + 2 * (m + 1) = k + 2 * m + 1 + 1 by omega, addr_part.j1, if_neg (by decide), num_hx hr, Option.bind_some, if_pos rfl, if_pos (by rw [List.length_take]; omega), wrap_small i (by omega), wr_u16]
    have e : l.take i ++ [l[i] % 65536] = l.take (i + 1) := by
      rw [List.take_succ_eq_append_getElem hlt, show l[i] % 65536 = l[i] by omega]
    rw [e]
    exact ih k (i + 1) (by omega)
theorem toList_ne {l : List UInt8} (h : l ≠ []) : ¬ (mkB l).toList = [] := by
  intro e
  rw [ByteArray.toList_eq, mkB_data] at e
  exact h e
theorem tx_ne {l : List Int} (h : l ≠ []) : tx l ≠ [] := by
  intro e
  cases l with
  | nil => exact h rfl
  | cons x t =>
    unfold tx at e
    rw [List.map_cons, join_cons] at e
    have := (hexL_len x.toNat).1
    have e2 := (List.append_eq_nil_iff.1 e).1
    unfold hx at e2
    rw [e2] at this
    exact absurd this (by decide)
theorem part_eq (k : Nat) (last : Bool) (l : List Int) (h : rng l) (h8 : l.length ≤ 8) : addr_part.f (k + 17) (mkB (tx l)) last = some (l, true) := by
  unfold addr_part.f
  by_cases c : l = []
  · subst c
    rw [if_pos (by rw [ByteArray.toList_eq, mkB_data]; rfl)]
  · rw [if_neg (toList_ne (tx_ne c))]
    have ht := tx_len l
    have hs : strings_Split.f (mkB (tx l)) (⟨#[58]⟩ : ByteArray) = some (l.map fun x => mkB (hx x)) := by
      unfold strings_Split.f
      rw [if_pos ⟨by rw [mkB_size]; omega, rfl⟩]
      rw [show (⟨#[58]⟩ : ByteArray) = oneS 58 from rfl, splitB_list, mkB_data]
      unfold tx
      rw [split_join 58 (l.map hx) (by simpa using c) (fun y hy => (hx_ok h y hy).1), List.map_map]
      rfl
    rw [hs, Option.bind_some]
    have := part_loop last l h h8 l.length (k + 2 * (8 - l.length)) 0 (by omega)
    rw [show k + 2 * (8 - l.length) + 2 * l.length + 1 = k + 17 by omega] at this
    exact this
/-! ### addr.newer -/
theorem rng_take {l : List Int} (h : rng l) (n : Nat) : rng (l.take n) := fun x hx => h x (List.mem_of_mem_take hx)
theorem rng_drop {l : List Int} (h : rng l) (n : Nat) : rng (l.drop n) := fun x hx => h x (List.mem_of_mem_drop hx)
theorem newer_whole (k : Nat) (l : List Int) (h : rng l) (h8 : l.length = 8) : addr_newer.f (k + 17) (mkB (tx l)) = some (l, true) := by
  have ht := tx_len l
  have hc := cut_whole (l.map hx) (hx_ok h)
  change cut (tx l) [58, 58] = (tx l, [], false) at hc
  unfold addr_newer.f newerF
  rw [if_pos (by rw [mkB_size]; omega), mkB_data, hc]
  simp only
  rw [if_neg (by decide), show (!false) = true from rfl, part_eq k true l h (by omega), Option.bind_some, if_neg (show ¬ (true = false) by decide)]
  have hn : addr_part.f (k + 17) (mkB []) true = some ([], true) := part_eq k true [] (fun x hx => by cases hx) (by decide)
  rw [hn, Option.bind_some, if_neg (show ¬ (true = false) by decide)]
  simp only
  rw [if_pos ⟨by omega, by decide⟩, if_neg (by
    rw [h8]
    rintro (⟨e, _⟩ | ⟨_, e⟩)
    · cases e
    · exact e (by decide)), h8]
  simp
theorem newer_gap (k f n : Nat) (l : List Int) (h : rng l) (h8 : l.length = 8) (hfn : f + n ≤ 8) (hn : 1 < n) (hl : l = l.take f ++ List.replicate n 0 ++ l.drop (f + n)) :
    addr_newer.f (k + 17) (mkB (tx (l.take f) ++ 58 :: 58 :: tx (l.drop (f + n)))) = some (l, true) := by
  have ht1 := tx_len (l.take f)
  have ht2 := tx_len (l.drop (f + n))
  have e1 : (l.take f).length = f := by rw [List.length_take]; omega
  have e2 : (l.drop (f + n)).length = 8 - (f + n) := by rw [List.length_drop, h8]
  have hc := cut_gap ((l.take f).map hx) ((l.drop (f + n)).map hx) (hx_ok (rng_take h f))
  change cut (tx (l.take f) ++ 58 :: 58 :: tx (l.drop (f + n))) [58, 58] = (tx (l.take f), tx (l.drop (f + n)), true) at hc
  have hno := contains_no ((l.drop (f + n)).map hx) (hx_ok (rng_drop h (f + n)))
  change contains (tx (l.drop (f + n))) [58, 58] = false at hno
  unfold addr_newer.f newerF
  rw [if_pos (by rw [mkB_size, List.length_append, List.length_cons, List.length_cons]; omega), mkB_data, hc]
  simp only
  rw [hno, if_neg (by decide), show (!true) = false from rfl, part_eq k false _ (rng_take h f) (by omega), Option.bind_some, if_neg (show ¬ (true = false) by decide), part_eq k true _ (rng_drop h (f + n)) (by omega), Option.bind_some, if_neg (show ¬ (true = false) by decide)]
  simp only
  rw [if_pos ⟨by omega, by omega⟩, e1, e2]
  have en : (8 - (f : Int) - ((8 - (f + n) : Nat) : Int)).toNat = n := by omega
  rw [if_neg (by
    rintro (⟨_, e⟩ | ⟨e, _⟩)
    · omega
    · cases e), en]
  exact congrArg some (Prod.ext hl.symm rfl)
/-! ### The whole -/
def ok2 (six : Bool) (hi lo : Int) : Prop := 0 ≤ hi ∧ hi < 18446744073709551616 ∧ 0 ≤ lo ∧ lo < 18446744073709551616 ∧ (six = true ∨ (hi = 0 ∧ lo < 4294967296))
theorem check_ok {six : Bool} {hi lo : Int} (h : ok2 six hi lo) : addr_Check.f six hi lo = some 0 := by
  unfold addr_Check.f
  cases six
  · rcases h.2.2.2.2 with e | ⟨e1, e2⟩
    · cases e
    · rw [if_neg (by decide), if_pos e1, if_pos (by have := h.2.2.1; omega)]
  · rw [if_pos rfl]
theorem has58 {l : List Int} (h : 2 ≤ l.length) : (58 : UInt8) ∈ tx l := by
  match l, h with
  | x :: y :: t, _ =>
    unfold tx
    rw [List.map_cons, List.map_cons, join_cons]
    simp [joinTail]
theorem read_six (k : Nat) (s : List UInt8) (l : List Int) (hi lo : Int) (hs : s.length ≤ 100) (h46 : (46 : UInt8) ∉ s) (h58 : (58 : UInt8) ∈ s) (hn : addr_newer.f (k + 17) (mkB s) = some (l, true)) (ho : addr_of.f (k + 17) l = some (true, hi, lo)) :
    addr_Read.f (k + 17) (mkB s) = some (true, hi, lo, 0) := by
  unfold addr_Read.f
  rw [elder_none (k + 17) (mkB s) (by rw [mkB_size]; omega) (by rw [mkB_data]; exact h46), Option.bind_some, if_neg (by decide)]
  unfold strings_Contains.f
  rw [if_pos (by rw [mkB_size]; omega), Option.bind_some, mkB_data, if_pos (contains_one h58), hn, Option.bind_some, if_pos rfl, ho, Option.bind_some]
/-- An address is read of its text; the text is short, without strokes. -/
theorem read_text (six : Bool) (hi lo : Int) (h : ok2 six hi lo) (k : Nat) : ∃ s : List UInt8, addr_Text.f (k + 17) six hi lo = some (mkB s, 0) ∧ addr_Read.f (k + 17) (mkB s) = some (six, hi, lo, 0) ∧ (47 : UInt8) ∉ s ∧ s.length ≤ 39 := by
  unfold addr_Text.f textF
  rw [check_ok h, Option.bind_some, if_pos rfl]
  obtain ⟨h1, h2, h3, h4, h5⟩ := h
  cases six
  · rcases h5 with e | ⟨e1, e2⟩
    · cases e
    · subst e1
      obtain ⟨q1, q2, q3⟩ := elder_quad (k + 12) lo h3 e2
      rw [if_neg (by decide), if_pos (by omega)]
      refine ⟨_, rfl, ?_, q2, by omega⟩
      unfold addr_Read.f
      rw [show k + 17 = k + 12 + 5 by omega, q3, Option.bind_some, if_pos rfl]
  · rw [if_pos rfl]
    have hr : rng (cutL hi lo) := cut_rng hi lo
    have h8 : (cutL hi lo).length = 8 := rfl
    have hof : addr_of.f (k + 17) (cutL hi lo) = some (true, hi, lo) := of_cut (k + 8) hi lo h1 h2 h3 h4
    obtain ⟨f, n, hz, hfn, hl⟩ := zL_whole (cutL hi lo)
    rw [h8] at hfn
    rw [hz]
    simp only
    by_cases c : 1 < n
    · rw [if_pos (by omega), if_pos ⟨by omega, by omega⟩, Int.toNat_natCast, show ((f : Int) + (n : Int)).toNat = f + n by omega, join_eq (k + 8) _ (rng_take hr f) (by rw [List.length_take]; omega), Option.bind_some, join_eq (k + 8) _ (rng_drop hr (f + n)) (by rw [List.length_drop]; omega), Option.bind_some]
      have t1 := tx_len ((cutL hi lo).take f)
      have t2 := tx_len ((cutL hi lo).drop (f + n))
      rw [List.length_take, h8] at t1
      rw [List.length_drop, h8] at t2
      rw [if_pos ⟨by rw [mkB_size]; omega, by rw [mkB_size]; omega⟩]
      have es : (mkB (tx ((cutL hi lo).take f)) ++ (⟨#[58, 58]⟩ : ByteArray)) ++ mkB (tx ((cutL hi lo).drop (f + n))) = mkB (tx ((cutL hi lo).take f) ++ 58 :: 58 :: tx ((cutL hi lo).drop (f + n))) := by
        rw [← mkB_eta ((mkB (tx ((cutL hi lo).take f)) ++ (⟨#[58, 58]⟩ : ByteArray)) ++ mkB (tx ((cutL hi lo).drop (f + n))))]
        congr 1
        simp [ByteArray.data_append, mkB]
      rw [es]
      have hm : ∀ b ∈ tx ((cutL hi lo).take f) ++ 58 :: 58 :: tx ((cutL hi lo).drop (f + n)), b ≠ 46 ∧ b ≠ 47 := by
        intro b hb
        rw [List.mem_append, List.mem_cons, List.mem_cons] at hb
        rcases hb with hb | rfl | rfl | hb
        · exact ⟨(tx_mem (rng_take hr f) b hb).1, (tx_mem (rng_take hr f) b hb).2.1⟩
        · decide
        · decide
        · exact ⟨(tx_mem (rng_drop hr (f + n)) b hb).1, (tx_mem (rng_drop hr (f + n)) b hb).2.1⟩
      have hlen : (tx ((cutL hi lo).take f) ++ 58 :: 58 :: tx ((cutL hi lo).drop (f + n))).length ≤ 39 := by
        rw [List.length_append, List.length_cons, List.length_cons]; omega
      exact ⟨_, rfl, read_six k _ _ hi lo (by omega) (fun hb => (hm _ hb).1 rfl) (by simp) (newer_gap k f n _ hr h8 hfn c hl) hof, fun hb => (hm _ hb).2 rfl, hlen⟩
    · rw [if_neg (by omega), join_eq (k + 8) _ hr (by omega), Option.bind_some]
      have t1 : (tx (cutL hi lo)).length ≤ 39 := by
        have := joinTail_len ((cutL hi lo).drop 1)
        show (join ((cutL hi lo).map hx) [58]).length ≤ 39
        unfold cutL at this ⊢
        rw [List.map_cons, join_cons, List.length_append]
        simp only [List.drop_succ_cons, List.drop_zero, List.length_cons, List.length_nil] at this
        have h0 := (hexL_len (g16 hi 3).toNat).2
        unfold hx at *
        omega
      exact ⟨_, rfl, read_six k _ _ hi lo (by omega) (fun hb => (tx_mem hr _ hb).1 rfl) (has58 (by rw [h8]; decide)) (newer_whole k _ hr h8) hof, fun hb => (tx_mem hr _ hb).2.1 rfl, t1⟩
end Go.Proofs.YtilobbjnmnnmnaaGreatDoor.AddrFns
set_option linter.unusedSimpArgs false
set_option linter.unusedVariables false
namespace Go.Proofs.YtilobbjnmnnmnaaGreatDoor.AddrFns
open Go.RowKit Go.Lib Go.Proofs.YtilobbjnmnnmnaaGreatDoor.ORev Go.Proofs.YtilobbjnmnnmnaaGreatDoor.AddrLib Go.Proofs.YtilobbjnmnnmnaaGreatDoorW.PrintWords Go.Proofs.YtilobbjnmnnmnaaGreatDoorW.PrintLast Go.Proofs.YtilobbjnmnnmnaaGreatDoorW.PrintMore

/-- A group's text, and what it tells. -/
structure Grp (p : List UInt8 × Int) : Prop where
  ne : p.1 ≠ []
  len : p.1.length ≤ 4
  mem : ∀ b ∈ p.1, b ≠ 46 ∧ b ≠ 58
  num : addr_number.f (mkB p.1) 4 16 = some (p.2, true)
  rng : 0 ≤ p.2 ∧ p.2 < 65536
def gts (l : List (List UInt8 × Int)) : List UInt8 := join (l.map Prod.fst) [58]
theorem gts_ok {l : List (List UInt8 × Int)} (h : ∀ p ∈ l, Grp p) : okG (l.map Prod.fst) := by
  intro y hy
  obtain ⟨p, hp, rfl⟩ := List.mem_map.1 hy
  exact ⟨fun hb => ((h p hp).mem 58 hb).2 rfl, (h p hp).ne⟩
theorem gtsTail_len (l : List (List UInt8 × Int)) (h : ∀ p ∈ l, Grp p) : (joinTail [58] (l.map Prod.fst)).length ≤ 5 * l.length := by
  induction l with
  | nil => simp [joinTail]
  | cons x t ih =>
    have h1 := (h x (by simp)).len
    have ih := ih (fun p hp => h p (by simp [hp]))
    unfold joinTail at ih ⊢
    simp only [List.map_cons, List.flatten_cons, List.length_append, List.length_cons, List.length_nil, List.map_map] at ih ⊢
    omega
theorem gts_len (l : List (List UInt8 × Int)) (h : ∀ p ∈ l, Grp p) : (gts l).length ≤ 5 * l.length := by
  unfold gts
  cases l with
  | nil => simp [join_nil]
  | cons x t =>
    rw [List.map_cons, join_cons, List.length_append, List.length_cons]
    have := gtsTail_len t (fun p hp => h p (by simp [hp]))
    have := (h x (by simp)).len
    omega
theorem gts_mem {l : List (List UInt8 × Int)} (h : ∀ p ∈ l, Grp p) : (46 : UInt8) ∉ gts l := by
  have tail : ∀ t : List (List UInt8 × Int), (∀ p ∈ t, Grp p) → (46 : UInt8) ∉ joinTail [58] (t.map Prod.fst) := by
    intro t ht hb
    unfold joinTail at hb
    rw [List.map_map, List.mem_flatten] at hb
    obtain ⟨y, hy, hb⟩ := hb
    obtain ⟨x, hx', rfl⟩ := List.mem_map.1 hy
    simp only [Function.comp, List.mem_append, List.mem_singleton] at hb
    rcases hb with hb | hb
    · exact absurd hb (by decide)
    · exact ((ht x hx').mem _ hb).1 rfl
  intro hb
  unfold gts at hb
  cases l with
  | nil => simp [join_nil] at hb
  | cons x t =>
    rw [List.map_cons, join_cons, List.mem_append] at hb
    rcases hb with hb | hb
    · exact ((h x (by simp)).mem _ hb).1 rfl
    · exact tail t (fun y hy => h y (by simp [hy])) hb
theorem part_loopG (last : Bool) (l : List (List UInt8 × Int)) (h : ∀ p ∈ l, Grp p) (h8 : l.length ≤ 8) : ∀ (m k i : Nat), i + m = l.length →
    addr_part.l0 (k + 2 * m + 1) last ((l.take i).map Prod.snd) (l.map fun x => mkB x.1) (l.map fun x => mkB x.1) ((l.map fun x => mkB x.1).length : Int) (i : Int) = some (l.map Prod.snd, true) := by
  intro m
  induction m with
  | zero =>
    intro k i hi
    have e : i = l.length := by omega
    rw [addr_part.l0, if_neg (by rw [List.length_map]; omega), e, List.take_length]
  | succ m ih =>
    intro k i hi
    have hlt : i < l.length := by omega
    have hr := h l[i] (List.getElem_mem hlt)
    have hg : rdOf ByteArray.empty (l.map fun x => mkB x.1) (i : Int) = mkB l[i].1 := by
      unfold rdOf
      rw [Int.toNat_natCast, List.getD_eq_getElem?_getD, List.getElem?_map, List.getElem?_eq_getElem hlt]
      rfl
    have hel := elder_none (k + 2 * (m + 1)) (mkB l[i].1) (by rw [mkB_size]; have := hr.len; omega) (by rw [mkB_data]; exact fun hb => (hr.mem 46 hb).1 rfl)
    have hrg := hr.rng
    rw [addr_part.l0, if_pos (by rw [List.length_map]; omega), if_pos (by omega), if_pos (by rw [List.length_map]; omega), hg, hel, Option.bind_some, if_neg (by decide), show k + 2 * (m + 1) = k + 2 * m + 1 + 1 by omega, addr_part.j1, if_neg (by decide), hr.num, Option.bind_some, if_pos rfl, if_pos (by rw [List.length_map, List.length_take]; omega), wrap_small i (by omega), wr_u16]
    have e : (l.take i).map Prod.snd ++ [l[i].2 % 65536] = (l.take (i + 1)).map Prod.snd := by
      rw [List.take_succ_eq_append_getElem hlt, List.map_append, show l[i].2 % 65536 = l[i].2 by omega]
      rfl
    rw [e]
    exact ih k (i + 1) (by omega)
theorem gts_ne {l : List (List UInt8 × Int)} (h : ∀ p ∈ l, Grp p) (c : l ≠ []) : gts l ≠ [] := by
  intro e
  cases l with
  | nil => exact c rfl
  | cons x t =>
    unfold gts at e
    rw [List.map_cons, join_cons] at e
    exact (h x (by simp)).ne (List.append_eq_nil_iff.1 e).1
theorem part_groups (k : Nat) (last : Bool) (l : List (List UInt8 × Int)) (h : ∀ p ∈ l, Grp p) (h8 : l.length ≤ 8) : addr_part.f (k + 17) (mkB (gts l)) last = some (l.map Prod.snd, true) := by
  unfold addr_part.f
  by_cases c : l = []
  · subst c
    rw [if_pos (by rw [ByteArray.toList_eq, mkB_data]; rfl)]
    rfl
  · rw [if_neg (toList_ne (gts_ne h c))]
    have ht := gts_len l h
    have hs : strings_Split.f (mkB (gts l)) (⟨#[58]⟩ : ByteArray) = some (l.map fun x => mkB x.1) := by
      unfold strings_Split.f
      rw [if_pos ⟨by rw [mkB_size]; omega, rfl⟩]
      rw [show (⟨#[58]⟩ : ByteArray) = oneS 58 from rfl, splitB_list, mkB_data]
      unfold gts
      rw [split_join 58 (l.map Prod.fst) (by simpa using c) (fun y hy => (gts_ok h y hy).1), List.map_map]
      rfl
    rw [hs, Option.bind_some]
    have := part_loopG last l h h8 l.length (k + 2 * (8 - l.length)) 0 (by omega)
    rw [show k + 2 * (8 - l.length) + 2 * l.length + 1 = k + 17 by omega] at this
    exact this
theorem newer_groups (k : Nat) (l : List (List UInt8 × Int)) (h : ∀ p ∈ l, Grp p) (h8 : l.length = 8) : addr_newer.f (k + 17) (mkB (gts l)) = some (l.map Prod.snd, true) := by
  have ht := gts_len l h
  have hc := cut_whole (l.map Prod.fst) (gts_ok h)
  change cut (gts l) [58, 58] = (gts l, [], false) at hc
  unfold addr_newer.f newerF
  rw [if_pos (by rw [mkB_size]; omega), mkB_data, hc]
  simp only
  rw [if_neg (by decide), show (!false) = true from rfl, part_groups k true l h (by omega), Option.bind_some, if_neg (show ¬ (true = false) by decide)]
  have hn : addr_part.f (k + 17) (mkB []) true = some ([], true) := part_eq k true [] (fun x hx => by cases hx) (by decide)
  rw [hn, Option.bind_some, if_neg (show ¬ (true = false) by decide)]
  simp only
  rw [List.length_map, if_pos ⟨by omega, by decide⟩, if_neg (by
    rw [h8]
    rintro (⟨e, _⟩ | ⟨_, e⟩)
    · cases e
    · exact e (by decide)), h8]
  simp
theorem has58G {l : List (List UInt8 × Int)} (h : 2 ≤ l.length) : (58 : UInt8) ∈ gts l := by
  match l, h with
  | x :: y :: t, _ =>
    unfold gts
    rw [List.map_cons, List.map_cons, join_cons]
    simp [joinTail]
/-- Eight groups are an address. -/
theorem read_groups (k : Nat) (l : List (List UInt8 × Int)) (h : ∀ p ∈ l, Grp p) (hi lo : Int) (h0 : 0 ≤ hi) (h1 : hi < 18446744073709551616) (l0 : 0 ≤ lo) (l1 : lo < 18446744073709551616) (hv : l.map Prod.snd = cutL hi lo) :
    addr_Read.f (k + 17) (mkB (gts l)) = some (true, hi, lo, 0) := by
  have h8 : l.length = 8 := by rw [← List.length_map (f := Prod.snd), hv]; rfl
  have hlen := gts_len l h
  refine read_six k (gts l) (cutL hi lo) hi lo (by omega) (gts_mem h) (has58G (by omega)) ?_ (of_cut (k + 8) hi lo h0 h1 l0 l1)
  rw [← hv]
  exact newer_groups k l h h8
end Go.Proofs.YtilobbjnmnnmnaaGreatDoor.AddrFns
set_option linter.unusedSimpArgs false
set_option linter.unusedVariables false
namespace Go.Proofs.YtilobbjnmnnmnaaGreatDoor.NameFns
open Go.RowKit Go.Proofs.YtilobbjnmnnmnaaGreatDoor.ORev Go.Proofs.YtilobbjnmnnmnaaGreatDoorW.PrintWords Go.Proofs.YtilobbjnmnnmnaaGreatDoorW.PrintLast Go.Proofs.YtilobbjnmnnmnaaGreatDoorW.PrintMore

theorem size_nil {s : ByteArray} : s.toList = ([] : List UInt8) ↔ s.size = 0 := by
  rw [ByteArray.toList_eq]
  constructor
  · intro h
    have : s.data.toList.length = 0 := by rw [h]; rfl
    rw [data_length] at this
    exact this
  · intro h
    apply List.eq_nil_of_length_eq_zero
    rw [data_length]
    exact h
/-! ### The check -/
theorem check_l0 : ∀ (k : Nat) (s : ByteArray), s.size < k → s.size ≤ 1000000 → name_Check.l0 k s = some (if wf s = true then 0 else 4) := by
  intro k
  induction k with
  | zero => intro s h; omega
  | succ k ih =>
    intro s h hs
    simp only [name_Check.l0]
    by_cases h0 : s.size = 0
    · rw [if_pos (size_nil.2 h0), wf_zero h0, if_pos rfl]
    rw [if_neg (fun e => h0 (size_nil.1 e)), cut_eq s (by omega), Option.bind_some]
    unfold cutR
    cases hc : cutS s with
    | none =>
      rw [wf_none hc h0]
      rfl
    | some p =>
      obtain ⟨l, r⟩ := p
      have hz := cutS_sizes hc
      rw [wf_cut hc]
      show (if true = true then name_Check.l0 k r else some 4) = _
      rw [if_pos rfl]
      exact ih r (by omega) (by omega)
theorem check_eq (s : ByteArray) (k : Nat) (hk : 300 ≤ k) : name_Check.f k s = some (chkS s) := by
  unfold name_Check.f chkS
  by_cases h : s.size > 254
  · rw [if_pos (by omega), if_pos h]
  · rw [if_neg (by omega), if_neg h]
    exact check_l0 k s (by omega) (by omega)
/-! ### The labels -/
theorem labels_bad {s : ByteArray} (h : chkS s ≠ 0) (k : Nat) (hk : 300 ≤ k) : name_Labels.f k s = some [] := by
  unfold name_Labels.f
  rw [check_eq s k hk, Option.bind_some, if_neg h]
theorem labels_join {L : List ByteArray} (h : okL L) (hl : (joinI L).length ≤ 254) (k : Nat) (hk : 300 ≤ k) : name_Labels.f k (joinS L) = some L := by
  unfold name_Labels.f
  rw [check_eq _ k hk, Option.bind_some, chkS_join h hl, if_pos rfl, labelsP_join h, if_pos ⟨by rw [joinS_size h]; exact hl, Nat.le_trans (joinI_len L) hl⟩]
/-! ### Make -/
theorem nm_eq {L : List ByteArray} (h : okL L) : (⟨(nmOf L).toArray⟩ : ByteArray) = joinS L := by
  apply bytesOf_inj
  rw [bytesOf_join h]
  show (nmOf L).map _ = _
  induction L with
  | nil => rfl
  | cons x t ih =>
    have h1 := okL_cons.1 h
    rw [joinI_cons]
    simp only [nmOf, List.map_cons, List.map_append]
    rw [ih h1.2]
    congr 1
    simp
    omega
theorem nm_len {L : List ByteArray} (h : okL L) : (nmOf L).length = (joinI L).length := by
  rw [← bytesOf_join h, ← nm_eq h]
  show _ = ((nmOf L).map _).length
  rw [List.length_map]
theorem chkL_ok {L : List ByteArray} (h : okL L) : chkL L = 0 := by
  induction L with
  | nil => rfl
  | cons x t ih =>
    have h1 := okL_cons.1 h
    unfold chkL
    rw [if_neg (by omega), if_neg (by omega)]
    exact ih h1.2
theorem make_join {L : List ByteArray} (h : okL L) (hl : (joinI L).length ≤ 254) : name_Make.f L = some (joinS L, 0) := by
  unfold name_Make.f
  rw [if_pos (by have := joinI_len L; omega), if_pos (chkL_ok h), if_neg (by rw [nm_len h]; omega), nm_eq h]
end Go.Proofs.YtilobbjnmnnmnaaGreatDoor.NameFns
set_option linter.unusedSimpArgs false
set_option linter.unusedVariables false
namespace Go.Proofs.YtilobbjnmnnmnaaGreatDoor.AddrFns
open Go.RowKit Go.Lib Go.Proofs.YtilobbjnmnnmnaaGreatDoor.ORev Go.Proofs.YtilobbjnmnnmnaaGreatDoor.AddrLib Go.Proofs.YtilobbjnmnnmnaaGreatDoor.NameFns Go.Proofs.YtilobbjnmnnmnaaGreatDoorW.PrintWords Go.Proofs.YtilobbjnmnnmnaaGreatDoorW.PrintLast Go.Proofs.YtilobbjnmnnmnaaGreatDoorW.PrintMore

def octs (a : Int) : Nat → List Int
  | 0 => []
  | m + 1 => (a / 2 ^ (8 * m) % 256) :: octs a m
theorem octs_rng (a : Int) : ∀ m, ∀ x ∈ octs a m, 0 ≤ x ∧ x < 256
  | 0, x, h => by cases h
  | m + 1, x, h => by
    rcases List.mem_cons.1 h with rfl | h
    · omega
    · exact octs_rng a m x h
theorem parted_loop (a : Int) : ∀ (m k : Nat) (l : List Int), m ≤ 8 → l.length + m ≤ 100 → addr_parted.l0 (k + m + 1) l a ((m : Int) - 1) = some (l ++ octs a m) := by
  intro m
  induction m with
  | zero =>
    intro k l _ _
    rw [addr_parted.l0, if_neg (by omega)]
    simp [octs]
  | succ m ih =>
    intro k l hm hl
    have e0 : ((m + 1 : Nat) : Int) - 1 = (m : Int) := by omega
    have e1 : wrap64 (8 * (m : Int)) = 8 * (m : Int) := by unfold wrap64; omega
    have e2 : shr .u64 a (8 * (m : Int)) = a / 2 ^ (8 * m) := by
      show a / 2 ^ min (8 * (m : Int)).toNat 64 = _
      rw [show min (8 * (m : Int)).toNat 64 = 8 * m by omega]
    have e3 : wrap64 ((m : Int) - 1) = (m : Int) - 1 := by unfold wrap64; omega
    rw [e0, show k + (m + 1) + 1 = (k + m + 1) + 1 by omega, addr_parted.l0, if_pos (by omega), e1, if_pos (by omega), if_pos (by omega), e2, e3, ih k _ (by omega) (by rw [List.length_append, List.length_singleton]; omega)]
    simp [octs]
theorem parted_eq (a : Int) (m k : Nat) (l : List Int) (hm : m ≤ 8) (hl : l.length ≤ 50) : addr_parted.f (k + 9) l a (m : Int) = some (l ++ octs a m) := by
  unfold addr_parted.f
  have := parted_loop a m (k + (8 - m)) l hm (by omega)
  rw [show k + (8 - m) + m + 1 = k + 9 by omega] at this
  rw [show wrap64 ((m : Int) - 1) = (m : Int) - 1 by unfold wrap64; omega]
  exact this
def octsOf (six : Bool) (hi lo : Int) : List Int := if six then octs hi 8 ++ octs lo 8 else octs lo 4
theorem octsOf_rng (six : Bool) (hi lo : Int) : ∀ x ∈ octsOf six hi lo, 0 ≤ x ∧ x < 256 := by
  intro x h
  unfold octsOf at h
  split at h
  · rcases List.mem_append.1 h with h | h <;> exact octs_rng _ _ x h
  · exact octs_rng _ _ x h
theorem octets_ok {six : Bool} {hi lo : Int} (h : ok2 six hi lo) (k : Nat) : addr_Octets.f (k + 9) six hi lo = some (strOfNums (octsOf six hi lo), 0) := by
  unfold addr_Octets.f
  rw [check_ok h, Option.bind_some, if_pos rfl]
  cases six
  · rw [if_neg (by decide)]
    have := parted_eq lo 4 k [] (by decide) (by decide)
    rw [show ((4 : Nat) : Int) = 4 from rfl, List.nil_append] at this
    rw [this, Option.bind_some]
    rfl
  · rw [if_pos rfl]
    have h1 := parted_eq hi 8 k [] (by decide) (by decide)
    have h2 := parted_eq lo 8 k (octs hi 8) (by decide) (by simp [octs])
    rw [show ((8 : Nat) : Int) = 8 from rfl] at h1 h2
    rw [List.nil_append] at h1
    rw [h1, Option.bind_some, h2, Option.bind_some]
    rfl
/-- Of an address that is none the octets are none. -/
theorem octets_bad {six : Bool} {hi lo : Int} (h : six = false) (hb : ¬ (hi = 0 ∧ lo < 4294967296)) (h0 : 0 ≤ lo) (k : Nat) : ∃ e : Int, e ≠ 0 ∧ addr_Octets.f k six hi lo = some (⟨#[]⟩, e) := by
  subst h
  have hc : addr_Check.f false hi lo = some 2 := by
    unfold addr_Check.f
    rw [if_neg (by decide)]
    by_cases e : hi = 0
    · rw [if_pos e, if_neg (by omega)]
    · rw [if_neg e]
  refine ⟨2, by decide, ?_⟩
  unfold addr_Octets.f
  rw [hc, Option.bind_some, if_neg (by decide)]
theorem nums_octs (six : Bool) (hi lo : Int) : numsB (strOfNums (octsOf six hi lo)) = octsOf six hi lo := bytesOf_str (fun x h => by have := octsOf_rng six hi lo x h; omega)
theorem size_octs (six : Bool) (hi lo : Int) : (strOfNums (octsOf six hi lo)).size = (octsOf six hi lo).length := by rw [← numsB_len, nums_octs]
theorem octs_len (a : Int) : ∀ m, (octs a m).length = m
  | 0 => rfl
  | m + 1 => by rw [octs, List.length_cons, octs_len a m]
theorem octsOf_len (six : Bool) (hi lo : Int) : (octsOf six hi lo).length = if six then 16 else 4 := by
  unfold octsOf
  split
  · rw [List.length_append, octs_len, octs_len]
  · rw [octs_len]
/-! ### The row -/
theorem seqB_snd (xs : List Int) : (seqB xs 0).map Prod.snd = xs.reverse := by
  unfold seqB
  rw [List.drop_zero, List.map_map, List.map_reverse]
  congr 1
  refine List.ext_getElem? fun i => ?_
  rw [List.getElem?_map]
  by_cases h : i < xs.length
  · rw [List.getElem?_eq_getElem (by simpa using h), List.getElem?_eq_getElem h]
    simp [rd, rdOf, List.getD, h]
  · rw [List.getElem?_eq_none (by simpa using h), List.getElem?_eq_none (by omega)]
    rfl
theorem revs_eq (six : Bool) (l : List (Int × Int)) : revs six l = (l.map Prod.snd).flatMap (revOne six) := by
  unfold revs
  rw [List.flatMap_map]
def rowOf (six : Bool) (hi lo : Int) : List ByteArray := (octsOf six hi lo).reverse.flatMap (revOne six) ++ tailS six
theorem revRow_eq (six : Bool) (hi lo : Int) : revRow six (strOfNums (octsOf six hi lo)) = rowOf six hi lo := by
  unfold revRow rowOf
  rw [nums_octs, revs_eq, seqB_snd]
theorem hexS_eq : ∀ d : Fin 16, hexS (d.val : Int) = mkB [hexD d.val] := by decide +kernel
theorem hexS_at (d : Int) (h0 : 0 ≤ d) (h1 : d < 16) : hexS d = mkB [hexD d.toNat] := by
  have := hexS_eq ⟨d.toNat, by omega⟩
  rw [show ((⟨d.toNat, by omega⟩ : Fin 16).val : Int) = d by show ((d.toNat : Nat) : Int) = d; omega] at this
  exact this
theorem decL_len (u : Nat) : 1 ≤ (decL u).length ∧ (decL u).length ≤ 3 := by
  unfold decL
  split
  · simp
  · split <;> simp
theorem revOne_size (six : Bool) (b : Int) (h0 : 0 ≤ b) (h1 : b < 256) : ∀ x ∈ revOne six b, 1 ≤ x.size ∧ x.size ≤ 3 := by
  intro x hx
  unfold revOne at hx
  split at hx
  · rcases List.mem_cons.1 hx with rfl | hx
    · rw [hexS_at _ (by omega) (by omega), mkB_size]; simp
    · obtain rfl := List.mem_singleton.1 hx
      rw [hexS_at _ (by omega) (by omega), mkB_size]; simp
  · obtain rfl := List.mem_singleton.1 hx
    rw [mkB_size, itoa_eq b h0 (by omega)]
    exact decL_len _
theorem tailS_size : ∀ six : Bool, ∀ x ∈ tailS six, 1 ≤ x.size ∧ x.size ≤ 7 := by decide
theorem rowOf_size (six : Bool) (hi lo : Int) : ∀ x ∈ rowOf six hi lo, 1 ≤ x.size ∧ x.size ≤ 7 := by
  intro x hx
  unfold rowOf at hx
  rcases List.mem_append.1 hx with hx | hx
  · obtain ⟨b, hb, hx⟩ := List.mem_flatMap.1 hx
    have hr := octsOf_rng six hi lo b (List.mem_reverse.1 hb)
    have := revOne_size six b hr.1 hr.2 x hx
    omega
  · exact tailS_size six x hx
theorem rowOf_ok (six : Bool) (hi lo : Int) : okL (rowOf six hi lo) := fun x hx => by have := rowOf_size six hi lo x hx; omega
theorem joinI_len_le (L : List ByteArray) (h : ∀ x ∈ L, x.size ≤ 7) : (joinI L).length ≤ 8 * L.length := by
  induction L with
  | nil => exact Nat.zero_le _
  | cons x t ih =>
    have h1 := h x (by simp)
    have h2 := ih (fun y hy => h y (by simp [hy]))
    rw [joinI_len_cons, List.length_cons]
    omega
theorem flat_len (six : Bool) (l : List Int) : (l.flatMap (revOne six)).length = (if six then 2 else 1) * l.length := by
  induction l with
  | nil => simp
  | cons x t ih =>
    rw [List.flatMap_cons, List.length_append, ih, List.length_cons]
    cases six
    · simp [revOne]; omega
    · simp [revOne]; omega
theorem rowOf_len (six : Bool) (hi lo : Int) : (rowOf six hi lo).length = if six then 34 else 6 := by
  unfold rowOf
  rw [List.length_append, flat_len, List.length_reverse, octsOf_len]
  cases six <;> rfl
theorem joinI_flat (l : List Int) (six : Bool) (h : ∀ x ∈ l, 0 ≤ x ∧ x < 256) : (joinI (l.flatMap (revOne six))).length ≤ 4 * l.length := by
  induction l with
  | nil => exact Nat.zero_le _
  | cons x t ih =>
    have ih := ih (fun y hy => h y (by simp [hy]))
    have hx := h x (by simp)
    have hs := revOne_size six x hx.1 hx.2
    rw [List.flatMap_cons, joinI_append, List.length_append, List.length_cons]
    have : (joinI (revOne six x)).length ≤ 4 := by
      cases six
      · have := hs (mkB (itoa x)) (by simp [revOne])
        show (joinI [mkB (itoa x)]).length ≤ 4
        rw [joinI_len_cons]
        show 1 + _ + 0 ≤ 4
        omega
      · show (joinI [hexS (x % 16), hexS (x / 16)]).length ≤ 4
        rw [joinI_len_cons, joinI_len_cons, hexS_at _ (by omega) (by omega), hexS_at _ (by omega) (by omega), mkB_size, mkB_size]
        show 1 + 1 + (1 + 1 + 0) ≤ 4
        decide
    omega
theorem rowOf_short (six : Bool) (hi lo : Int) : (joinI (rowOf six hi lo)).length ≤ 254 := by
  unfold rowOf
  rw [joinI_append, List.length_append]
  have := joinI_flat (octsOf six hi lo).reverse six (fun x h => octsOf_rng six hi lo x (List.mem_reverse.1 h))
  rw [List.length_reverse, octsOf_len] at this
  have ht : (joinI (tailS six)).length ≤ 14 := by cases six <;> decide
  cases six
  · simp only [Bool.false_eq_true, if_false] at this; omega
  · simp only [if_true] at this; omega
theorem reverse_ok {six : Bool} {hi lo : Int} (h : ok2 six hi lo) (k : Nat) : addr_Reverse.f (k + 9) six hi lo = some (joinS (rowOf six hi lo), 0) := by
  unfold addr_Reverse.f reverseF
  rw [octets_ok h k, Option.bind_some, if_pos rfl, if_pos (by rw [size_octs, octsOf_len]; split <;> decide), revRow_eq]
  exact make_join (rowOf_ok six hi lo) (rowOf_short six hi lo)
theorem reverse_bad {six : Bool} {hi lo : Int} (h : six = false) (hb : ¬ (hi = 0 ∧ lo < 4294967296)) (h0 : 0 ≤ lo) (k : Nat) : ∃ e : Int, e ≠ 0 ∧ addr_Reverse.f k six hi lo = some (⟨#[]⟩, e) := by
  obtain ⟨e, he, ho⟩ := octets_bad h hb h0 k
  refine ⟨e, he, ?_⟩
  unfold addr_Reverse.f reverseF
  rw [ho, Option.bind_some, if_neg he]
/-! ### Unlike addresses have unlike rows -/
theorem octs8_inj {a b : Int} (a0 : 0 ≤ a) (a1 : a < 18446744073709551616) (b0 : 0 ≤ b) (b1 : b < 18446744073709551616) (h : octs a 8 = octs b 8) : a = b := by
  simp only [octs, List.cons.injEq, Nat.reduceMul, and_true] at h
  obtain ⟨h7, h6, h5, h4, h3, h2, h1, h0⟩ := h
  simp only [Int.reducePow] at h7 h6 h5 h4 h3 h2 h1 h0
  omega
theorem octs4_inj {a b : Int} (a0 : 0 ≤ a) (a1 : a < 4294967296) (b0 : 0 ≤ b) (b1 : b < 4294967296) (h : octs a 4 = octs b 4) : a = b := by
  simp only [octs, List.cons.injEq, Nat.reduceMul, and_true] at h
  obtain ⟨h3, h2, h1, h0⟩ := h
  simp only [Int.reducePow] at h3 h2 h1 h0
  omega
theorem hexD_inj : ∀ a b : Fin 16, hexD a.val = hexD b.val → a = b := by decide +kernel
theorem itoa_inj (a b : Nat) (ha : a < 256) (hb : b < 256) (h : decL a = decL b) : a = b := by
  have h1 := (dec_fact a ha).1
  rw [h, (dec_fact b hb).1] at h1
  have := congrArg Prod.fst (Option.some.inj h1)
  simp only at this
  omega
theorem mkB_inj {a b : List UInt8} (h : mkB a = mkB b) : a = b := by
  have := congrArg (fun s : ByteArray => s.data.toList) h
  simpa [mkB_data] using this
theorem revOne_inj (six : Bool) (a b : Int) (ha : 0 ≤ a ∧ a < 256) (hb : 0 ≤ b ∧ b < 256) (h : revOne six a = revOne six b) : a = b := by
  cases six
  · simp only [revOne, Bool.false_eq_true, if_false, List.cons.injEq, and_true] at h
    rw [itoa_eq a ha.1 (by omega), itoa_eq b hb.1 (by omega)] at h
    have := itoa_inj a.toNat b.toNat (by omega) (by omega) (mkB_inj h)
    omega
  · simp only [revOne, if_true, List.cons.injEq, and_true] at h
    obtain ⟨h1, h2⟩ := h
    rw [hexS_at _ (by omega) (by omega), hexS_at _ (by omega) (by omega)] at h1 h2
    have e1 := Fin.val_eq_of_eq (hexD_inj ⟨(a % 16).toNat, by omega⟩ ⟨(b % 16).toNat, by omega⟩ (by have := mkB_inj h1; simpa using this))
    have e2 := Fin.val_eq_of_eq (hexD_inj ⟨(a / 16).toNat, by omega⟩ ⟨(b / 16).toNat, by omega⟩ (by have := mkB_inj h2; simpa using this))
    simp only at e1 e2
    omega
theorem flat_inj (six : Bool) : ∀ (l m : List Int), (∀ x ∈ l, 0 ≤ x ∧ x < 256) → (∀ x ∈ m, 0 ≤ x ∧ x < 256) → l.length = m.length → l.flatMap (revOne six) = m.flatMap (revOne six) → l = m
  | [], [], _, _, _, _ => rfl
  | [], _ :: _, _, _, hl, _ => by cases hl
  | _ :: _, [], _, _, hl, _ => by cases hl
  | x :: l, y :: m, h1, h2, hl, h => by
    rw [List.flatMap_cons, List.flatMap_cons] at h
    have hlen : (revOne six x).length = (revOne six y).length := by cases six <;> rfl
    obtain ⟨e1, e2⟩ := List.append_inj h hlen
    rw [revOne_inj six x y (h1 x (by simp)) (h2 y (by simp)) e1, flat_inj six l m (fun z hz => h1 z (by simp [hz])) (fun z hz => h2 z (by simp [hz])) (by simpa using hl) e2]
theorem rowOf_inj {six six' : Bool} {hi lo hi' lo' : Int} (h : ok2 six hi lo) (h' : ok2 six' hi' lo') (e : rowOf six hi lo = rowOf six' hi' lo') : six = six' ∧ hi = hi' ∧ lo = lo' := by
  have hs : six = six' := by
    have := congrArg List.length e
    rw [rowOf_len, rowOf_len] at this
    cases six <;> cases six' <;> first | rfl | (simp at this)
  subst hs
  have hl : (octsOf six hi lo).length = (octsOf six hi' lo').length := by rw [octsOf_len, octsOf_len]
  unfold rowOf at e
  have e1 := flat_inj six _ _ (fun x hx => octsOf_rng six hi lo x (List.mem_reverse.1 hx)) (fun x hx => octsOf_rng six hi' lo' x (List.mem_reverse.1 hx)) (by simpa using hl) (List.append_cancel_right e)
  have e2 := List.reverse_inj.1 e1
  obtain ⟨a1, a2, a3, a4, a5⟩ := h
  obtain ⟨b1, b2, b3, b4, b5⟩ := h'
  cases six
  · have p : hi = 0 ∧ lo < 4294967296 := a5.resolve_left (by decide)
    have q : hi' = 0 ∧ lo' < 4294967296 := b5.resolve_left (by decide)
    exact ⟨rfl, by rw [p.1, q.1], octs4_inj a3 p.2 b3 q.2 e2⟩
  · have e3 : octs hi 8 ++ octs lo 8 = octs hi' 8 ++ octs lo' 8 := e2
    obtain ⟨q1, q2⟩ := List.append_inj e3 (by rw [octs_len, octs_len])
    exact ⟨rfl, octs8_inj a1 a2 b1 b2 q1, octs8_inj a3 a4 b3 b4 q2⟩
end Go.Proofs.YtilobbjnmnnmnaaGreatDoor.AddrFns
set_option linter.unusedSimpArgs false
set_option linter.unusedVariables false
namespace Go.Proofs.YtilobbjnmnnmnaaGreatDoor.AddrFns
open Go.RowKit Go.Lib Go.Proofs.YtilobbjnmnnmnaaGreatDoor.ORev Go.Proofs.YtilobbjnmnnmnaaGreatDoor.AddrLib Go.Proofs.YtilobbjnmnnmnaaGreatDoor.NameFns Go.Proofs.YtilobbjnmnnmnaaGreatDoorW.PrintWords Go.Proofs.YtilobbjnmnnmnaaGreatDoorW.PrintLast Go.Proofs.YtilobbjnmnnmnaaGreatDoorW.PrintMore

/-! ### Groups of four digits -/
def dig4 (a b : Int) : List UInt8 := [hexD (a / 16).toNat, hexD (a % 16).toNat, hexD (b / 16).toNat, hexD (b % 16).toNat]
theorem grp4 (a b : Int) (ha : 0 ≤ a ∧ a < 256) (hb : 0 ≤ b ∧ b < 256) : Grp (dig4 a b, a * 256 + b) := by
  have f1 := hexD_fact (a / 16).toNat (by omega)
  have f2 := hexD_fact (a % 16).toNat (by omega)
  have f3 := hexD_fact (b / 16).toNat (by omega)
  have f4 := hexD_fact (b % 16).toNat (by omega)
  have hm : ∀ c ∈ dig4 a b, c.toNat < 128 ∧ c ≠ 58 ∧ c ≠ 46 ∧ digI (c.toNat : Int) < 16 := by
    intro c hc
    unfold dig4 at hc
    simp only [List.mem_cons, List.not_mem_nil, or_false] at hc
    rcases hc with rfl | rfl | rfl | rfl
    · exact ⟨f1.2.1, f1.2.2.1, f1.2.2.2.1, by rw [f1.1]; omega⟩
    · exact ⟨f2.2.1, f2.2.2.1, f2.2.2.2.1, by rw [f2.1]; omega⟩
    · exact ⟨f3.2.1, f3.2.2.1, f3.2.2.2.1, by rw [f3.1]; omega⟩
    · exact ⟨f4.2.1, f4.2.2.1, f4.2.2.2.1, by rw [f4.1]; omega⟩
  refine ⟨by simp [dig4], Nat.le_refl 4, fun c hc => ⟨(hm c hc).2.2.1, (hm c hc).2.1⟩, ?_, by omega, by omega⟩
  unfold addr_number.f
  rw [if_pos ⟨.inr rfl, by decide⟩]
  have hz : (mkB (dig4 a b)).size = 4 := by rw [mkB_size]; rfl
  unfold numP
  rw [if_neg (by rw [hz]; decide), if_pos (by unfold ascii; rw [mkB_data, List.all_eq_true]; intro b hb; exact decide_eq_true (hm b hb).1), if_pos (by rw [mkB_bytes]; intro x hx; obtain ⟨b, hb, rfl⟩ := List.mem_map.1 hx; exact (hm b hb).2.2.2), mkB_bytes]
  have : valI 16 ((dig4 a b).map fun b => (b.toNat : Int)) = a * 256 + b := by
    unfold valI dig4
    simp only [List.map_cons, List.map_nil, List.foldl_cons, List.foldl_nil, f1.1, f2.1, f3.1, f4.1]
    omega
  rw [this]
/-! ### The loop that builds the text -/
def dig2 (x : Int) : List UInt8 := [hexD (x % 16).toNat, hexD (x / 16).toNat]
def accT (ds : List UInt8) : Nat → List UInt8
  | 0 => []
  | m + 1 => ds.getD m 0 :: ((if m % 4 = 0 ∧ 0 < m then [58] else []) ++ accT ds m)
def bytes1 (ds : List UInt8) : List ByteArray := ds.map fun d => mkB [d]
theorem flat_dig : ∀ (l : List Int), (∀ x ∈ l, 0 ≤ x ∧ x < 256) → l.flatMap (revOne true) = bytes1 (l.flatMap dig2)
  | [], _ => rfl
  | x :: l, h => by
    have hx := h x (by simp)
    rw [List.flatMap_cons, List.flatMap_cons, flat_dig l (fun y hy => h y (by simp [hy]))]
    unfold bytes1
    rw [List.map_append]
    congr 1
    show [hexS (x % 16), hexS (x / 16)] = [mkB [hexD (x % 16).toNat], mkB [hexD (x / 16).toNat]]
    rw [hexS_at _ (by omega) (by omega), hexS_at _ (by omega) (by omega)]
theorem mkB_app (a b : List UInt8) : mkB a ++ mkB b = mkB (a ++ b) := by
  rw [← mkB_eta (mkB a ++ mkB b)]
  congr 1
theorem loop_text (ds : List UInt8) (tl : List ByteArray) (h32 : ds.length = 32) (a : Bool) (b c : Int) : ∀ (m k : Nat) (acc : List UInt8), m ≤ 32 → acc.length + 2 * m ≤ 100 →
    nameplatelaw04_AddrReverses.l0 (k + m) (bytes1 ds ++ tl) (mkB acc) ((m : Int) - 1) a b c = nameplatelaw04_AddrReverses.l0 k (bytes1 ds ++ tl) (mkB (acc ++ accT ds m)) (-1) a b c := by
  intro m
  induction m with
  | zero =>
    intro k acc _ _
    rw [show accT ds 0 = [] from rfl, List.append_nil]
    rfl
  | succ m ih =>
    intro k acc hm ha
    have hlt : m < ds.length := by omega
    have hg : rdOf ByteArray.empty (bytes1 ds ++ tl) (m : Int) = mkB [ds.getD m 0] := by
      unfold rdOf
      rw [Int.toNat_natCast, List.getD_eq_getElem?_getD, List.getElem?_append_left (by unfold bytes1; rw [List.length_map]; exact hlt)]
      unfold bytes1
      rw [List.getElem?_map, List.getElem?_eq_getElem hlt, List.getD_eq_getElem?_getD, List.getElem?_eq_getElem hlt]
      rfl
    have hl : (m : Int) < ((bytes1 ds ++ tl).length : Int) := by
      rw [List.length_append]
      unfold bytes1
      rw [List.length_map]
      omega
    have e0 : ((m + 1 : Nat) : Int) - 1 = (m : Int) := by omega
    have e3 : wrap64 ((m : Int) - 1) = (m : Int) - 1 := by unfold wrap64; omega
    have e4 : Int.tmod (m : Int) 4 = ((m % 4 : Nat) : Int) := by rw [Int.tmod_eq_emod_of_nonneg (by omega)]; omega
    have e5 : mkB acc ++ mkB [ds.getD m 0] = mkB (acc ++ [ds.getD m 0]) := mkB_app _ _
    rw [e0, show k + (m + 1) = (k + m) + 1 by omega, nameplatelaw04_AddrReverses.l0, if_pos (by omega), if_pos (by omega), if_pos hl, hg, if_pos (by rw [mkB_size, mkB_size]; simp; omega), e4, e3, e5]
    by_cases c1 : m % 4 = 0
    · rw [if_pos (by omega)]
      by_cases c2 : 0 < m
      · rw [if_pos (by omega), if_pos (by rw [mkB_size]; simp; omega)]
        rw [show (⟨#[58]⟩ : ByteArray) = mkB [58] from rfl, mkB_app, ih k _ (by omega) (by simp; omega)]
        congr 2
        simp [accT, c1, c2]
      · rw [if_neg (by omega), ih k _ (by omega) (by simp; omega)]
        congr 2
        simp [accT, c2]
    · rw [if_neg (by omega), ih k _ (by omega) (by simp; omega)]
      congr 2
      simp [accT, c1]
def grps (xs : List Int) : List (List UInt8 × Int) := (List.range 8).map fun i => (dig4 (xs.getD (2 * i) 0) (xs.getD (2 * i + 1) 0), xs.getD (2 * i) 0 * 256 + xs.getD (2 * i + 1) 0)
set_option maxRecDepth 20000 in
theorem text_grps (x0 x1 x2 x3 x4 x5 x6 x7 x8 x9 x10 x11 x12 x13 x14 x15 : Int) : accT ([x0, x1, x2, x3, x4, x5, x6, x7, x8, x9, x10, x11, x12, x13, x14, x15].reverse.flatMap dig2) 32 = gts (grps [x0, x1, x2, x3, x4, x5, x6, x7, x8, x9, x10, x11, x12, x13, x14, x15]) := rfl
theorem grps_val (hi lo : Int) (h0 : 0 ≤ hi) (h1 : hi < 18446744073709551616) (l0 : 0 ≤ lo) (l1 : lo < 18446744073709551616) : (grps (octs hi 8 ++ octs lo 8)).map Prod.snd = cutL hi lo := by
  show [hi / 2 ^ 56 % 256 * 256 + hi / 2 ^ 48 % 256, hi / 2 ^ 40 % 256 * 256 + hi / 2 ^ 32 % 256, hi / 2 ^ 24 % 256 * 256 + hi / 2 ^ 16 % 256, hi / 2 ^ 8 % 256 * 256 + hi / 2 ^ 0 % 256, lo / 2 ^ 56 % 256 * 256 + lo / 2 ^ 48 % 256, lo / 2 ^ 40 % 256 * 256 + lo / 2 ^ 32 % 256, lo / 2 ^ 24 % 256 * 256 + lo / 2 ^ 16 % 256, lo / 2 ^ 8 % 256 * 256 + lo / 2 ^ 0 % 256] = _
  unfold cutL
  simp only [g16, wr_u16, Int.reducePow, Int.ediv_one]
  congr 1
  · omega
  congr 1
  · omega
  congr 1
  · omega
  congr 1
  · omega
  congr 1
  · omega
  congr 1
  · omega
  congr 1
  · omega
  congr 1
  omega
theorem grps_ok (hi lo : Int) : ∀ p ∈ grps (octs hi 8 ++ octs lo 8), Grp p := by
  intro p hp
  obtain ⟨i, _, rfl⟩ := List.mem_map.1 hp
  have hr : ∀ j, 0 ≤ (octs hi 8 ++ octs lo 8).getD j 0 ∧ (octs hi 8 ++ octs lo 8).getD j 0 < 256 := by
    intro j
    rw [List.getD_eq_getElem?_getD]
    cases hj : (octs hi 8 ++ octs lo 8)[j]? with
    | none => simp
    | some x => exact octsOf_rng true hi lo x (List.mem_of_getElem? hj)
  exact grp4 _ _ (hr _) (hr _)
/-! ### The law -/
set_option maxRecDepth 20000 in
theorem lives_true : nameplatelaw04_lives.f 400 = some true := by decide +kernel
def ipL : List ByteArray := tailS true
theorem row_six (hi lo : Int) : rowOf true hi lo = bytes1 ((octs hi 8 ++ octs lo 8).reverse.flatMap dig2) ++ tailS true := by
  unfold rowOf
  rw [flat_dig _ (fun x hx => octsOf_rng true hi lo x (List.mem_reverse.1 hx))]
  rfl
theorem flat2_len : ∀ (l : List Int), (l.flatMap dig2).length = 2 * l.length
  | [] => rfl
  | x :: l => by rw [List.flatMap_cons, List.length_append, flat2_len l, List.length_cons]; show 2 + _ = _; omega
/-- The labels at the end. -/
theorem rd_tail (L T : List ByteArray) (j : Nat) (i : Int) (hi : i = (L.length : Int) + (j : Int)) : rdOf ByteArray.empty (L ++ T) i = T.getD j ByteArray.empty := by
  subst hi
  unfold rdOf
  rw [show ((L.length : Int) + (j : Int)).toNat = L.length + j by omega, List.getD_eq_getElem?_getD, List.getD_eq_getElem?_getD, List.getElem?_append_right (by omega), show L.length + j - L.length = j by omega]
theorem rd_row (six : Bool) (hi lo : Int) (j : Nat) (i : Int) (h : i = (if six then 32 else 4) + (j : Int)) : rdOf ByteArray.empty (rowOf six hi lo) i = (tailS six).getD j ByteArray.empty := by
  unfold rowOf
  refine rd_tail _ _ j i ?_
  rw [flat_len, List.length_reverse, octsOf_len, h]
  cases six <;> simp
theorem six_end (hi lo : Int) (h0 : 0 ≤ hi) (h1 : hi < 18446744073709551616) (l0 : 0 ≤ lo) (l1 : lo < 18446744073709551616) (k : Nat) :
    nameplatelaw04_AddrReverses.l0 (k + 50) (rowOf true hi lo) (⟨#[]⟩ : ByteArray) 31 true hi lo = some true := by
  have hl : ((octs hi 8 ++ octs lo 8).reverse.flatMap dig2).length = 32 := by
    rw [flat2_len, List.length_reverse, List.length_append, octs_len, octs_len]
  have hrow := row_six hi lo
  have h32 := rd_row true hi lo 0 32 (by simp)
  have hlen := rowOf_len true hi lo
  have := loop_text ((octs hi 8 ++ octs lo 8).reverse.flatMap dig2) (tailS true) hl true hi lo 32 (k + 18) [] (Nat.le_refl _) (by decide)
  rw [← hrow, show k + 18 + 32 = k + 50 by omega, show ((32 : Nat) : Int) - 1 = 31 from rfl, show mkB [] = (⟨#[]⟩ : ByteArray) from rfl] at this
  rw [this, List.nil_append]
  have ht : accT ((octs hi 8 ++ octs lo 8).reverse.flatMap dig2) 32 = gts (grps (octs hi 8 ++ octs lo 8)) := text_grps _ _ _ _ _ _ _ _ _ _ _ _ _ _ _ _
  rw [ht, nameplatelaw04_AddrReverses.l0, if_neg (by decide), read_groups k _ (grps_ok hi lo) hi lo h0 h1 l0 l1 (grps_val hi lo h0 h1 l0 l1), Option.bind_some]
  simp only
  rw [if_pos trivial, if_pos (by simp), hlen, if_pos (by decide), h32]
  decide +kernel
set_option maxRecDepth 20000 in
theorem four_end (lo : Int) (l0 : 0 ≤ lo) (l1 : lo < 4294967296) (k : Nat) : nameplatelaw04_AddrReverses.j1 (k + 20) (rowOf false 0 lo) false false 0 lo = some true := by
  obtain ⟨q1, _, _⟩ := elder_quad 0 lo l0 l1
  have ht : addr_Text.f (k + 19) false 0 lo = some (mkB (join ((quad lo).map (·.data.toList)) [46]), 0) := by
    unfold addr_Text.f textF
    rw [check_ok (show ok2 false 0 lo from ⟨by omega, by omega, l0, by omega, .inr ⟨rfl, l1⟩⟩), Option.bind_some, if_pos rfl, if_neg (by decide), if_pos (by omega)]
  have hr : rowOf false 0 lo = [mkB (itoa (lo % 256)), mkB (itoa (lo / 256 % 256)), mkB (itoa (lo / 65536 % 256)), mkB (itoa (lo / 16777216 % 256))] ++ tailS false := by
    show [mkB (itoa (lo / 2 ^ 0 % 256)), mkB (itoa (lo / 2 ^ 8 % 256)), mkB (itoa (lo / 2 ^ 16 % 256)), mkB (itoa (lo / 2 ^ 24 % 256))] ++ tailS false = _
    simp only [Int.reducePow, Int.ediv_one]
  have hd : ∀ x : Int, 0 ≤ x → x < 256 → 1 ≤ (mkB (itoa x)).size ∧ (mkB (itoa x)).size ≤ 3 := by
    intro x x0 x1
    rw [mkB_size, itoa_eq x x0 (by omega)]
    exact decL_len _
  have ha := hd (lo / 16777216 % 256) (by omega) (by omega)
  have hb := hd (lo / 65536 % 256) (by omega) (by omega)
  have hc := hd (lo / 256 % 256) (by omega) (by omega)
  have he := hd (lo % 256) (by omega) (by omega)
  rw [nameplatelaw04_AddrReverses.j1, if_neg (by decide), if_neg (by decide), ht, Option.bind_some, hr]
  generalize ga : itoa (lo / 16777216 % 256) = A at *
  generalize gb : itoa (lo / 65536 % 256) = B at *
  generalize gc : itoa (lo / 256 % 256) = C at *
  generalize ge : itoa (lo % 256) = E at *
  rw [mkB_size] at ha hb hc he
  have r0 : rdOf ByteArray.empty ([mkB E, mkB C, mkB B, mkB A] ++ tailS false) 0 = mkB E := rfl
  have r1 : rdOf ByteArray.empty ([mkB E, mkB C, mkB B, mkB A] ++ tailS false) 1 = mkB C := rfl
  have r2 : rdOf ByteArray.empty ([mkB E, mkB C, mkB B, mkB A] ++ tailS false) 2 = mkB B := rfl
  have r3 : rdOf ByteArray.empty ([mkB E, mkB C, mkB B, mkB A] ++ tailS false) 3 = mkB A := rfl
  have r4 : rdOf ByteArray.empty ([mkB E, mkB C, mkB B, mkB A] ++ tailS false) 4 = ⟨#[105, 110, 45, 97, 100, 100, 114]⟩ := rfl
  have hlen : ((([mkB E, mkB C, mkB B, mkB A] ++ tailS false : List ByteArray)).length : Int) = 6 := rfl
  have hdot : (⟨#[46]⟩ : ByteArray) = mkB [46] := rfl
  have hq : join ((quad lo).map (·.data.toList)) [46] = A ++ 46 :: (B ++ 46 :: (C ++ 46 :: E)) := by
    unfold quad
    rw [ga, gb, gc, ge]
    simp [mkB_data, join_cons, joinTail]
  rw [hq]
  have hlen2 : [mkB E, mkB C, mkB B, mkB A].length + (tailS false).length = 6 := rfl
  simp only [r0, r1, r2, r3, r4, hdot, mkB_app, mkB_size, List.length_append, hlen2, List.length_singleton]
  rw [if_pos (by decide), if_pos (by omega), if_pos (by decide), if_pos (by omega), if_pos (by omega), if_pos (by decide), if_pos (by omega), if_pos (by omega), if_pos (by decide), if_pos (by omega), if_pos (by simp [ByteArray.toList_eq, mkB_data]), if_pos (by decide)]
  decide +kernel
set_option maxRecDepth 20000 in
theorem j0_end {six six' : Bool} {hi lo hi' lo' : Int} (h : ok2 six hi lo) (h' : ok2 six' hi' lo') : nameplatelaw04_AddrReverses.j0 400 (joinS (rowOf six hi lo)) (joinS (rowOf six' hi' lo')) false six hi lo six' hi' lo' = some true := by
  have hlen := rowOf_len six hi lo
  have hL := labels_join (rowOf_ok six hi lo) (rowOf_short six hi lo) 399 (by decide)
  have hlast : rdOf ByteArray.empty (rowOf six hi lo) (wrap64 (((rowOf six hi lo).length : Int) - 1)) = ⟨#[97, 114, 112, 97]⟩ := by
    rw [rd_row six hi lo 1 _ (by rw [hlen]; cases six <;> decide +kernel)]
    cases six <;> rfl
  have heq : (((joinS (rowOf six hi lo)).toList == (joinS (rowOf six' hi' lo')).toList) != (six == six' && (hi == hi' && (lo == lo')))) = false := by
    by_cases e : six = six' ∧ hi = hi' ∧ lo = lo'
    · obtain ⟨rfl, rfl, rfl⟩ := e
      simp
    · have n1 : ((joinS (rowOf six hi lo)).toList == (joinS (rowOf six' hi' lo')).toList) = false := by
        rw [beq_eq_false_iff_ne]
        intro q
        rw [ByteArray.toList_eq, ByteArray.toList_eq] at q
        have q2 : joinS (rowOf six hi lo) = joinS (rowOf six' hi' lo') := by rw [← mkB_eta (joinS (rowOf six hi lo)), q, mkB_eta]
        exact e (rowOf_inj h h' (joinS_inj (rowOf_ok _ _ _) (rowOf_ok _ _ _) q2))
      have n2 : (six == six' && (hi == hi' && (lo == lo'))) = false := by
        rw [Bool.eq_false_iff]
        intro q
        simp only [Bool.and_eq_true, beq_iff_eq] at q
        exact e q
      rw [n1, n2]
      rfl
  rw [show (400 : Nat) = 399 + 1 from rfl, nameplatelaw04_AddrReverses.j0, if_neg (by decide), hL, Option.bind_some, hlast, heq, hlen]
  obtain ⟨a1, a2, a3, a4, a5⟩ := h
  cases six
  · have p : hi = 0 ∧ lo < 4294967296 := a5.resolve_left (by decide)
    obtain ⟨rfl, p2⟩ := p
    rw [if_neg (by decide +kernel), if_pos (by decide +kernel), if_pos (by decide +kernel), if_pos (by decide +kernel), if_neg (by decide +kernel), if_neg (by decide +kernel)]
    exact four_end lo a3 p2 379
  · rw [if_neg (by decide +kernel), if_pos (by decide +kernel), if_pos (by decide +kernel), if_pos (by decide +kernel), if_neg (by decide +kernel), if_neg (by decide +kernel)]
    rw [show ((!true) != (((if true = true then 34 else 6 : Nat) : Int) == 6)) = false by decide, show (399 : Nat) = 398 + 1 from rfl, nameplatelaw04_AddrReverses.j1, if_neg (by decide), if_pos rfl]
    exact six_end hi lo a1 a2 a3 a4 348
theorem reverse_some (six : Bool) (hi lo : Int) (h0 : 0 ≤ hi) (h1 : hi < 18446744073709551616) (l0 : 0 ≤ lo) (l1 : lo < 18446744073709551616) :
    (ok2 six hi lo ∧ addr_Reverse.f 400 six hi lo = some (joinS (rowOf six hi lo), 0)) ∨ ∃ e : Int, e ≠ 0 ∧ addr_Reverse.f 400 six hi lo = some (⟨#[]⟩, e) := by
  by_cases h : six = true ∨ (hi = 0 ∧ lo < 4294967296)
  · exact .inl ⟨⟨h0, h1, l0, l1, h⟩, reverse_ok ⟨h0, h1, l0, l1, h⟩ 391⟩
  · refine .inr (reverse_bad ?_ (fun e => h (.inr e)) l0 400)
    cases six
    · rfl
    · exact absurd (.inl rfl) h
theorem j0_true (a b : ByteArray) (p q : Bool) (x y z u : Int) : nameplatelaw04_AddrReverses.j0 400 a b true p x y q z u = some true := by
  rw [show (400 : Nat) = 399 + 1 from rfl, nameplatelaw04_AddrReverses.j0, if_pos rfl]
/-- The law of all addresses. -/
theorem reverses_f (six six' : Bool) (hi lo hi' lo' : Int) (h0 : 0 ≤ hi) (h1 : hi < 18446744073709551616) (l0 : 0 ≤ lo) (l1 : lo < 18446744073709551616) (h0' : 0 ≤ hi') (h1' : hi' < 18446744073709551616) (l0' : 0 ≤ lo') (l1' : lo' < 18446744073709551616) :
    nameplatelaw04_AddrReverses.f 400 six hi lo six' hi' lo' = some true := by
  unfold nameplatelaw04_AddrReverses.f
  rw [lives_true, Option.bind_some, if_pos rfl]
  rcases reverse_some six hi lo h0 h1 l0 l1 with ⟨g, e⟩ | ⟨x, hx, e⟩ <;> rcases reverse_some six' hi' lo' h0' h1' l0' l1' with ⟨g', e'⟩ | ⟨y, hy, e'⟩
  · rw [e, Option.bind_some, e', Option.bind_some, if_pos rfl]
    exact j0_end g g'
  · rw [e, Option.bind_some, e', Option.bind_some, if_pos rfl, show (y != 0) = true from bne_iff_ne.2 hy]
    exact j0_true _ _ _ _ _ _ _ _
  · rw [e, Option.bind_some, e', Option.bind_some, if_neg hx]
    exact j0_true _ _ _ _ _ _ _ _
  · rw [e, Option.bind_some, e', Option.bind_some, if_neg hx]
    exact j0_true _ _ _ _ _ _ _ _
/-- The law's call, whatever the memory. -/
theorem calls_row (six : Bool) (hi lo : Int) (six' : Bool) (hi' lo' : Int) (W : World) (hG : G W) (a : 0 ≤ hi ∧ hi < 2 ^ 64) (b : 0 ≤ lo ∧ lo < 2 ^ 64) (c : 0 ≤ hi' ∧ hi' < 2 ^ 64) (d : 0 ≤ lo' ∧ lo' < 2 ^ 64) :
    Calls Tryz.prog 8 #[.agg #[.bool six, .int .u64 hi, .int .u64 lo], .agg #[.bool six', .int .u64 hi', .int .u64 lo']] W fun e w' => e = .returned (.bool true) ∧ Below W.heap.size W w' := by
  simp only [Int.reducePow] at a b c d
  exact nameplatelaw04_AddrReverses.calls 400 six hi lo six' hi' lo' true W ⟨hG⟩ ⟨rfl⟩ (reverses_f six six' hi lo hi' lo' a.1 a.2 b.1 b.2 c.1 c.2 d.1 d.2)
end Go.Proofs.YtilobbjnmnnmnaaGreatDoor.AddrFns
