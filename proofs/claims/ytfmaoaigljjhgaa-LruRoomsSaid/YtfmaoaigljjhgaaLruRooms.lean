/- The law LruRooms, walked: of the same puts a smaller list has the first keys of a greater one. -/
import Derived.Test.YtfmaoaigljjhgaaLruTwo
import Derived.StillTailTactics
namespace Go.Proofs.Ytfmaoaigljjhgaa.Lru
open Go Go.RowKit Go.Maps Go.Proofs.YtfmaoaigljjhgaaW.PrintWords

set_option maxHeartbeats 8000000 in
set_option maxRecDepth 100000 in
theorem LruRooms_out (a0 a1 : Int) (A2 : Option Addr) (c2 : Nat) (l2 : List Act) (w : World)
    (hout : (l2.length : Int) > 200 ∨ a0 < 1 ∨ a0 > 100 ∨ a1 < 0 ∨ a1 > 100) :
    Calls Try.prog 3 #[.int .i64 a0, .int .i64 a1, .slice A2 l2.length c2] w fun e w' => e = .returned (.bool true) ∧ Below w.heap.size w w' := by
  have hlives := lives_calls w
  have key : ((l2.length : Int) > 200) ∨ (¬ (l2.length : Int) > 200 ∧ a0 < 1) ∨ (¬ (l2.length : Int) > 200 ∧ ¬ a0 < 1 ∧ a0 > 100) ∨ (¬ (l2.length : Int) > 200 ∧ ¬ a0 < 1 ∧ ¬ a0 > 100 ∧ a1 < 0) ∨ (¬ (l2.length : Int) > 200 ∧ ¬ a0 < 1 ∧ ¬ a0 > 100 ∧ ¬ a1 < 0 ∧ a1 > 100) := by omega
  clear hout
  rcases key with d1 | ⟨d1, d2⟩ | ⟨d1, d2, d3⟩ | ⟨d1, d2, d3, d4⟩ | ⟨d1, d2, d3, d4, d5⟩
  all_goals
    go_enter Try.func3, Try.ntmps3
    go_wp2_with (go_at_call 9; (with_reducible refine hlives.mono ?_); rintro e w1 ⟨rfl, hb1⟩)
    go_ret
    exact ⟨rfl, hb1⟩
/-- The keys after so many acts. -/
def after (m : Int) (l : List Act) : List KV := l.foldl (fun L a => (putR m a.key a.v L).1) []
theorem after_snoc (m : Int) (l : List Act) (a : Act) : after m (l ++ [a]) = (putR m a.key a.v (after m l)).1 := by
  unfold after
  rw [List.foldl_append]
  rfl
structure Good (n k i : Nat) (L M : List KV) : Prop where
  pre : L = M.take n
  nodup : (M.map Prod.fst).Nodup
  room : M.length ≤ n + k
  few : M.length ≤ i
  short : ∀ q ∈ M, q.1.size ≤ 100
theorem Good.len {n k i : Nat} {L M : List KV} (h : Good n k i L M) : L.length ≤ n := by
  rw [h.pre, List.length_take]
  omega
theorem Good.less {n k i : Nat} {L M : List KV} (h : Good n k i L M) : L.length ≤ M.length := by
  rw [h.pre, List.length_take]
  omega
theorem Good.full {n k i : Nat} {L M : List KV} (h : Good n k i L M) (hl : L.length < n) : L.length = M.length := by
  rw [h.pre, List.length_take] at hl ⊢
  omega
theorem Good.step {n k i : Nat} {L M : List KV} (h : Good n k i L M) (hn : 1 ≤ n) (s : ByteArray) (hs : s.size ≤ 100) (v : Int) : Good n k (i + 1) ((putL s v L).take n) ((putL s v M).take (n + k)) := by
  refine ⟨?_, take_nodup (putL_nodup h.nodup), ?_, ?_, ?_⟩
  · rw [h.pre]
    exact put_take hn s v h.nodup
  · rw [List.length_take]
    omega
  · have h1 := putL_length s v M
    have h2 := h.few
    rw [List.length_take]
    omega
  · intro q hq
    rcases List.mem_cons.1 (List.mem_of_mem_take hq) with rfl | hq
    · exact hs
    · exact h.short q (List.mem_filter.1 hq).1
theorem Good.shortL {n k i : Nat} {L M : List KV} (h : Good n k i L M) : ∀ q ∈ L, q.1.size ≤ 100 := by
  intro q hq
  rw [h.pre] at hq
  exact h.short q (List.mem_of_mem_take hq)
theorem C_take {α : Type} {d : Kd α} {w : World} {A : Option Addr} {n m : Nat} {xs : List α} (h : d.C w A n xs) (hm : m ≤ n) : d.C w A m (xs.take m) := by
  obtain ⟨h1, h2, h3⟩ := h
  refine ⟨by rw [List.length_take]; omega, by omega, fun hp => ?_⟩
  obtain ⟨ad, e, hc⟩ := h3 (by omega)
  refine ⟨ad, e, fun j p hj => hc j p ?_⟩
  rw [List.getElem?_take] at hj
  by_cases c : j < m
  · rw [if_pos c] at hj
    exact hj
  · rw [if_neg c] at hj
    cases hj
theorem same_keys (L : List KV) (hl : L.length ≤ 1000) {A5 A6 : Option Addr} {c5 c6 : Nat} {w : World} (h5 : L.length ≤ c5) (h6 : L.length ≤ c6) (C5 : Kd.C Kd.string w A5 L.length (L.map Prod.fst)) (C6 : Kd.C Kd.string w A6 L.length (L.map Prod.fst)) :
    Calls Try.prog 13 #[.slice A5 L.length c5, .slice A6 L.length c6] w fun e w' => e = .returned (.bool true) ∧ Drawn0 w w' := by
  have e : (L.map Prod.fst).length = L.length := List.length_map _
  have := PLruScript.nameplatekit_Same_string.calls 2000 A5 c5 (L.map Prod.fst) A6 c6 (L.map Prod.fst) true w (by rw [e]; exact C5) (by rw [e]; exact h5) (by rw [e]; exact C6) (by rw [e]; exact h6) (same_self _ (by rw [e]; exact hl))
  rw [e] at this
  exact this
theorem C_pre {n k i : Nat} {L M : List KV} (h : Good n k i L M) {w : World} {A : Option Addr} (hC : Kd.C Kd.string w A M.length (M.map Prod.fst)) : Kd.C Kd.string w A L.length (L.map Prod.fst) := by
  have h1 := C_take hC h.less
  have e : (M.map Prod.fst).take L.length = L.map Prod.fst := by
    have hl : L.length = min n M.length := by rw [h.pre, List.length_take]
    rw [← List.map_take]
    congr 1
    rw [hl]
    conv => rhs; rw [h.pre]
    by_cases c : n ≤ M.length
    · rw [Nat.min_eq_left c]
    · rw [Nat.min_eq_right (by omega), List.take_length, List.take_of_length_le (by omega)]
  rw [e] at h1
  exact h1
theorem mem_rd {xs : List ByteArray} {i : Nat} (h : i < xs.length) : rdOf ByteArray.empty xs (i : Int) ∈ xs := by
  unfold rdOf
  rw [Int.toNat_natCast, List.getD_eq_getElem?_getD, List.getElem?_eq_getElem h]
  exact List.getElem_mem h
theorem int_step2 {i : Nat} (h : (i : Int) ≤ 1000) : Value.int .i64 (wrap64 ((i : Int) + 1)) = .int .i64 ((i + 1 : Nat) : Int) := by
  have h9 : wrap64 ((i : Int) + 1) = (i : Int) + 1 := by unfold wrap64; omega
  rw [h9]
  rfl
set_option maxHeartbeats 8000000 in
set_option maxRecDepth 100000 in
theorem LruRooms_in (n k : Nat) (hn : 1 ≤ n) (hn2 : n ≤ 100) (hk2 : k ≤ 100) (A2 : Option Addr) (c2 : Nat) (l2 : List Act) (w : World) (hc : l2.length ≤ c2) (hr : Kd.C kA w A2 l2.length l2) (hl : l2.length ≤ 200) :
    Calls Try.prog 3 #[.int .i64 (n : Int), .int .i64 (k : Int), .slice A2 l2.length c2] w fun e w' => e = .returned (.bool true) ∧ Below w.heap.size w w' := by
  have hlives := lives_calls w
  have d1 : ¬ (l2.length : Int) > 200 := by omega
  have d2 : ¬ (n : Int) < 1 := by omega
  have d3 : ¬ (n : Int) > 100 := by omega
  have d4 : ¬ (k : Int) < 0 := by omega
  have d5 : ¬ (k : Int) > 100 := by omega
  have hw5 : wrap64 ((n : Int) + (k : Int)) = (n : Int) + (k : Int) := by
    have e1 : (n : Int) ≤ 100 := by omega
    have e2 : (k : Int) ≤ 100 := by omega
    unfold wrap64
    omega
  have HC := Aside0.mk hc
  have HR := Aside0.mk hr
  have HL := Aside0.mk hl
  have H1 := Aside0.mk hn
  have H2 := Aside0.mk hn2
  have H3 := Aside0.mk hk2
  clear hc hr hl hn hn2 hk2
  go_enter Try.func3, Try.ntmps3
  go_wp2_with (first
    | (go_at_call 9; (with_reducible refine hlives.mono ?_); rintro e w1 ⟨rfl, hb1⟩; have HB1 := Aside0.mk hb1; clear hb1)
    | (go_at_call 10; (with_reducible refine (New_calls w1 (n : Int)).mono ?_); rintro e w2 ⟨rfl, hl2, hb2, hz2⟩; rw [if_pos (by have := H1.out; omega)] at hl2; have HL2 := Aside0.mk hl2; have HB2 := Aside0.mk hb2; have HZ2 := Aside0.mk hz2; clear hl2 hb2 hz2)
    | (go_at_call 10; (with_reducible refine (New_calls w2 ((n : Int) + (k : Int))).mono ?_); rintro e w3 ⟨rfl, hl3, hb3, hz3⟩; rw [if_pos (by have := H1.out; omega)] at hl3; have HT := Aside0.mk (two_start HB1.out HL2.out HB2.out HZ2.out hl3 hb3); clear hl3 hb3 hz3))
  clear hlives d1 d2 d3 d4 d5 hw5
  have hg0 : Good n k 0 [] [] := ⟨by simp, List.nodup_nil, by simp, Nat.le_refl _, fun q hq => by cases hq⟩
  have HG0 := Aside0.mk hg0
  clear hg0
  go_loopg [9] l2.length (fun kq v9 w' => ∃ (i : Nat) (L M : List KV), v9 = .int .i64 (i : Int) ∧ Aside0 (i + kq = l2.length) ∧ Aside0 (Good n k i L M) ∧ Aside0 (Two w w' w1.heap.size (n : Int) L w2.heap.size ((n : Int) + (k : Int)) M))
  case atStart => exact ⟨0, [], [], rfl, ⟨by omega⟩, HG0, HT⟩
  case round =>
    clear HT HG0
    obtain ⟨i, L, M, rfl, HK, HG, HT⟩ := hrel
    have hK := HK.out
    by_cases hi : i < l2.length
    · have hlow := HT.out.low
      have hRw := Kd.C_below HR.out hlow
      obtain ⟨ad, e5, x0, x1, x2⟩ := at_A hRw (i : Int) (by omega) (by omega)
      subst e5
      rw [Int.toNat_natCast] at x0 x1 x2
      obtain ⟨a, ha⟩ : ∃ a, rd_A l2 (i : Int) = a := ⟨_, rfl⟩
      rw [ha] at x0 x1 x2
      have q1 : (i : Int) < (l2.length : Int) := by omega
      have HLOW := Aside0.mk hlow
      have HA := Aside0.mk ha
      clear ha hRw hlow
      by_cases hs : (a.key.size : Int) > 100
      · go_wp2
        go_ret
        exact ⟨rfl, HLOW.out⟩
      · have HS : Aside0 (a.key.size ≤ 100) := ⟨by omega⟩
        have hs2 : decide ((a.key.size : Int) > 100) = false := decide_eq_false hs
        clear hs
        obtain ⟨o1, r1, e1⟩ := putR_take H1.out a.key a.v HG.out.len
        obtain ⟨o2, r2, e2⟩ := putR_take (n := n + k) (by have := H1.out; omega) a.key a.v HG.out.room
        rw [Int.natCast_add] at e2
        have hT1 := (HT.out.below (below_drew1 (Below.refl _ wr))).put (by omega) a.key (by have := HS.out; omega) a.v (by have := HG.out.len; have := H2.out; omega) (fun q hq => by have := HG.out.shortL q hq; omega) e1
        have HP1 := Aside0.mk hT1
        have HE2 := Aside0.mk e2
        clear e1 e2 hT1
        unfold vl at HP1
        go_wp2
        go_still_tail 11, (by kernel_rfl)
        change wpList _ _ _ _ _ wr.drew
        go_wp2_with (go_at_call 11; (with_reducible refine HP1.out.mono ?_); rintro e wB ⟨rfl, hB⟩; have HTB := Aside0.mk hB; clear hB)
        have hlow := HTB.out.low
        obtain ⟨ad', e5, y0, y1, y2⟩ := at_A (Kd.C_below HR.out hlow) (i : Int) (by omega) (by omega)
        have e6 : ad = ad' := by injection e5
        subst e6
        rw [Int.toNat_natCast, HA.out] at y0 y1 y2
        have hT2 := (HTB.out.swap.below (below_drew1 (Below.refl _ wB))).put (by omega) a.key (by have := HS.out; omega) a.v (by have := HG.out.few; have := HL.out; omega) (fun q hq => by have := HG.out.short q hq; omega) HE2.out
        have HP2 := Aside0.mk hT2
        clear hT2 hlow e5
        unfold vl at HP2
        go_wp2
        go_still_tail 11, (by kernel_rfl)
        change wpList _ _ _ _ _ wB.drew
        go_wp2_with (go_at_call 11; (with_reducible refine HP2.out.mono ?_); rintro e wC ⟨rfl, hC⟩; have HTC := Aside0.mk hC; clear hC)
        go_roundg (gk - 1)
        case measure => omega
        case rel =>
          have hi9 : (i : Int) ≤ 1000 := by have := HL.out; omega
          exact ⟨i + 1, _, _, (by first | exact int_step2 hi9 | rfl | simp), ⟨by omega⟩, ⟨HG.out.step H1.out a.key HS.out a.v⟩, ⟨HTC.out.swap⟩⟩
    · have hk1 := HT.out.keys (by have := HG.out.len; have := H2.out; omega)
      have HK1 := Aside0.mk hk1
      have g1 := HG.out.len
      have g2 := HG.out.less
      have f1 : ¬ (L.length : Int) > (n : Int) := by omega
      have f2 : ¬ (L.length : Int) > (M.length : Int) := by omega
      clear hk1 g1 g2
      by_cases f3 : (L.length : Int) < (n : Int)
      · have hLM : L = M := by
          have h1 := HG.out.full (by omega)
          have h2 := HG.out.pre
          rw [List.take_of_length_le] at h2
          · exact h2
          · rw [h2, List.length_take] at h1
            rw [h2, List.length_take] at f3
            omega
        subst hLM
        clear f2
        go_wp2_with (first
          | (go_at_call 12; (with_reducible refine HK1.out.mono ?_); rintro e w5 ⟨A5, c5, rfl, hl5, hC5, hT5, hb5⟩; have HL5 := Aside0.mk hl5; have HC5 := Aside0.mk hC5; have HB5 := Aside0.mk hb5; have HK2 := Aside0.mk (hT5.swap.keys (by have := HG.out.few; have := HL.out; omega)); clear hl5 hC5 hT5 hb5)
          | (go_at_call 12; (with_reducible refine HK2.out.mono ?_); rintro e w6 ⟨A6, c6, rfl, hl6, hC6, hT6, hb6⟩; have HL6 := Aside0.mk hl6; have HC6 := Aside0.mk hC6; have HT6 := Aside0.mk hT6.swap; have HB6 := Aside0.mk hb6; clear hC6 hT6 hb6)
          | (go_at_call 13; (with_reducible refine (same_keys L (by have := HG.out.few; have := HL.out; omega) HL5.out HL6.out (Kd.C_below HC5.out HB6.out) HC6.out).mono ?_); rintro e w7 ⟨rfl, n7, rfl⟩))
        have z1 : decide (n < L.length) = false := decide_eq_false (by have := HG.out.len; omega)
        (try simp only [z1])
        clear z1
        (try clear f1)
        (try clear f2)
        (try clear f3)
        have HB7 := Aside0.mk (Below.refl w6.heap.size w6)
        have hC6 := Kd.C_below HC5.out HB6.out
        have HC7 := Aside0.mk hC6
        clear hC6 hl6
        go_loopg [12] L.length (fun kq v12 w' => ∃ i2 : Nat, v12 = .int .i64 (i2 : Int) ∧ Aside0 (i2 + kq = L.length) ∧ Aside0 (Below w6.heap.size w6 w'))
        case atStart => exact ⟨0, rfl, ⟨by omega⟩, ⟨pw_below_drewN HB7.out _⟩⟩
        case round =>
          clear HB7
          obtain ⟨i2, rfl, HJ, HB7⟩ := hrel
          have hJ := HJ.out
          by_cases hi2 : i2 < L.length
          · obtain ⟨ad, e5, x0⟩ := Kd.at_string (Kd.C_below HC7.out HB7.out) (i2 : Int) (by omega) (by omega)
            subst e5
            rw [Int.toNat_natCast] at x0
            have hmem := mem_rd (xs := L.map Prod.fst) (i := i2) (by rw [List.length_map]; exact hi2)
            obtain ⟨s, hs⟩ : ∃ s, rdOf ByteArray.empty (L.map Prod.fst) (i2 : Int) = s := ⟨_, rfl⟩
            rw [hs] at x0 hmem
            obtain ⟨x, lx, mx⟩ := look_take (n := n) (M := L) (s := s) (by rw [← HG.out.pre]; exact hmem)
            rw [← HG.out.pre] at lx
            have hss : s.size ≤ 100000 := by
              obtain ⟨q, hq, e⟩ := List.mem_map.1 hmem
              have := HG.out.shortL q hq
              rw [← e]
              omega
            have HLK := Aside0.mk ((HT6.out.below HB7.out).look s hss lx)
            have HLM := Aside0.mk (fun n8 => ((HT6.out.below HB7.out).below (pw_below_drewN (Below.refl _ _) n8)).swap.look s hss mx)
            have q2 : (i2 : Int) < (L.length : Int) := by omega
            clear hmem hs lx mx hss
            unfold vl at HLK HLM
            go_wp2_with (first
              | (go_at_call 14; (with_reducible refine HLK.out.mono ?_); rintro e w8 ⟨rfl, n8, rfl⟩)
              | (go_at_call 14; (with_reducible refine (HLM.out n8).mono ?_); rintro e w9 ⟨rfl, n9, rfl⟩))
            go_roundg (gk - 1)
            case measure => omega
            case rel =>
              have h0 := HL.out
              have h3 := HG.out.less
              have h4 := HG.out.few
              have hi9 : (i2 : Int) ≤ 1000 := by omega
              exact ⟨i2 + 1, (by first | exact int_step2 hi9 | rfl | simp), ⟨by omega⟩, ⟨pw_below_drewN HB7.out _⟩⟩
          · have HKE := Aside0.mk ((HT6.out.below HB7.out).keys (by have := HG.out.len; have := H2.out; omega))
            have HX := Aside0.mk (Kd.C_below HC7.out HB7.out)
            go_wp2_with (first
              | (go_at_call 12; (with_reducible refine HKE.out.mono ?_); rintro e w8 ⟨A8, c8, rfl, hl8, hC8, hT8, hb8⟩; have HL8 := Aside0.mk hl8; have HC8 := Aside0.mk hC8; have HT8 := Aside0.mk hT8; have HB8 := Aside0.mk hb8; clear hl8 hC8 hT8 hb8)
              | (go_at_call 13; (with_reducible refine (same_keys L (by have := HG.out.few; have := HG.out.less; have := HL.out; omega) HL8.out HL5.out HC8.out (Kd.C_below HX.out HB8.out)).mono ?_); rintro e w9 ⟨rfl, n9, rfl⟩))
            go_ret
            exact ⟨rfl, pw_below_drewN HT8.out.low _⟩
      · go_wp2_with (first
          | (go_at_call 12; (with_reducible refine HK1.out.mono ?_); rintro e w5 ⟨A5, c5, rfl, hl5, hC5, hT5, hb5⟩; have HL5 := Aside0.mk hl5; have HC5 := Aside0.mk hC5; have HB5 := Aside0.mk hb5; have HK2 := Aside0.mk (hT5.swap.keys (by have := HG.out.few; have := HL.out; omega)); clear hl5 hC5 hT5 hb5)
          | (go_at_call 12; (with_reducible refine HK2.out.mono ?_); rintro e w6 ⟨A6, c6, rfl, hl6, hC6, hT6, hb6⟩; have HL6 := Aside0.mk hl6; have HC6 := Aside0.mk hC6; have HT6 := Aside0.mk hT6.swap; have HB6 := Aside0.mk hb6; replace hl6 : L.length ≤ c6 := Nat.le_trans HG.out.less hl6; clear hC6 hT6 hb6)
          | (go_at_call 13; (with_reducible refine (same_keys L (by have := HG.out.few; have := HG.out.less; have := HL.out; omega) HL5.out (Nat.le_trans HG.out.less HL6.out) (Kd.C_below HC5.out HB6.out) (C_pre HG.out HC6.out)).mono ?_); rintro e w7 ⟨rfl, n7, rfl⟩))
        have z1 : decide (n < L.length) = false := decide_eq_false (by have := HG.out.len; omega)
        have z2 : decide (M.length < L.length) = false := decide_eq_false (by have := HG.out.less; omega)
        have z3 : decide (L.length < n) = false := decide_eq_false (by omega)
        (try simp only [z1])
        (try simp only [z2])
        (try simp only [z3])
        clear z1 z2 z3
        (try clear f1)
        (try clear f2)
        (try clear f3)
        have HB7 := Aside0.mk (Below.refl w6.heap.size w6)
        have hC6 := Kd.C_below HC5.out HB6.out
        have HC7 := Aside0.mk hC6
        clear hC6 hl6
        go_loopg [12] L.length (fun kq v12 w' => ∃ i2 : Nat, v12 = .int .i64 (i2 : Int) ∧ Aside0 (i2 + kq = L.length) ∧ Aside0 (Below w6.heap.size w6 w'))
        case atStart => exact ⟨0, rfl, ⟨by omega⟩, ⟨pw_below_drewN HB7.out _⟩⟩
        case round =>
          clear HB7
          obtain ⟨i2, rfl, HJ, HB7⟩ := hrel
          have hJ := HJ.out
          by_cases hi2 : i2 < L.length
          · obtain ⟨ad, e5, x0⟩ := Kd.at_string (Kd.C_below HC7.out HB7.out) (i2 : Int) (by omega) (by omega)
            subst e5
            rw [Int.toNat_natCast] at x0
            have hmem := mem_rd (xs := L.map Prod.fst) (i := i2) (by rw [List.length_map]; exact hi2)
            obtain ⟨s, hs⟩ : ∃ s, rdOf ByteArray.empty (L.map Prod.fst) (i2 : Int) = s := ⟨_, rfl⟩
            rw [hs] at x0 hmem
            obtain ⟨x, lx, mx⟩ := look_take (n := n) (M := M) (s := s) (by rw [← HG.out.pre]; exact hmem)
            rw [← HG.out.pre] at lx
            have hss : s.size ≤ 100000 := by
              obtain ⟨q, hq, e⟩ := List.mem_map.1 hmem
              have := HG.out.shortL q hq
              rw [← e]
              omega
            have HLK := Aside0.mk ((HT6.out.below HB7.out).look s hss lx)
            have HLM := Aside0.mk (fun n8 => ((HT6.out.below HB7.out).below (pw_below_drewN (Below.refl _ _) n8)).swap.look s hss mx)
            have q2 : (i2 : Int) < (L.length : Int) := by omega
            clear hmem hs lx mx hss
            unfold vl at HLK HLM
            go_wp2_with (first
              | (go_at_call 14; (with_reducible refine HLK.out.mono ?_); rintro e w8 ⟨rfl, n8, rfl⟩)
              | (go_at_call 14; (with_reducible refine (HLM.out n8).mono ?_); rintro e w9 ⟨rfl, n9, rfl⟩))
            go_roundg (gk - 1)
            case measure => omega
            case rel =>
              have h0 := HL.out
              have h3 := HG.out.less
              have h4 := HG.out.few
              have hi9 : (i2 : Int) ≤ 1000 := by omega
              exact ⟨i2 + 1, (by first | exact int_step2 hi9 | rfl | simp), ⟨by omega⟩, ⟨pw_below_drewN HB7.out _⟩⟩
          · have HKE := Aside0.mk ((HT6.out.below HB7.out).keys (by have := HG.out.len; have := H2.out; omega))
            have HX := Aside0.mk (Kd.C_below HC7.out HB7.out)
            go_wp2_with (first
              | (go_at_call 12; (with_reducible refine HKE.out.mono ?_); rintro e w8 ⟨A8, c8, rfl, hl8, hC8, hT8, hb8⟩; have HL8 := Aside0.mk hl8; have HC8 := Aside0.mk hC8; have HT8 := Aside0.mk hT8; have HB8 := Aside0.mk hb8; clear hl8 hC8 hT8 hb8)
              | (go_at_call 13; (with_reducible refine (same_keys L (by have := HG.out.few; have := HG.out.less; have := HL.out; omega) HL8.out HL5.out HC8.out (Kd.C_below HX.out HB8.out)).mono ?_); rintro e w9 ⟨rfl, n9, rfl⟩))
            go_ret
            exact ⟨rfl, pw_below_drewN HT8.out.low _⟩
theorem LruRooms_calls (a0 a1 : Int) (A2 : Option Addr) (c2 : Nat) (l2 : List Act) (w : World) (hc : l2.length ≤ c2) (hr : Kd.C kA w A2 l2.length l2) :
    Calls Try.prog 3 #[.int .i64 a0, .int .i64 a1, .slice A2 l2.length c2] w fun e w' => e = .returned (.bool true) ∧ Below w.heap.size w w' := by
  by_cases h : (l2.length : Int) > 200 ∨ a0 < 1 ∨ a0 > 100 ∨ a1 < 0 ∨ a1 > 100
  · exact LruRooms_out a0 a1 A2 c2 l2 w h
  · obtain ⟨n, rfl⟩ : ∃ n : Nat, a0 = n := ⟨a0.toNat, by omega⟩
    obtain ⟨k, rfl⟩ : ∃ n : Nat, a1 = n := ⟨a1.toNat, by omega⟩
    exact LruRooms_in n k (by omega) (by omega) (by omega) A2 c2 l2 w hc hr (by omega)
end Go.Proofs.Ytfmaoaigljjhgaa.Lru
