import Derived.Test.YtfmholpbpghojaaDoorOrdK
/-! Order: the law OrderWritten. -/
namespace Go.Proofs.YtfmholpbpghojaaDoor
set_option linter.unusedVariables false
set_option linter.unusedSimpArgs false
open Go.RowKit Go.Lib

/-- How many bytes stand behind the last point among the first k. -/
def ptK (l : List UInt8) : Nat → Int
  | 0 => 0
  | k + 1 => if l.getD k 0 = 46 then (l.length : Int) - k - 1 else ptK l k
theorem ptK_no (l : List UInt8) (j : Nat) : ∀ k, j ≤ k → (∀ i, j ≤ i → i < k → l.getD i 0 ≠ 46) → ptK l k = ptK l j
  | 0, hjk, _ => by obtain rfl : j = 0 := by omega
                    rfl
  | k + 1, hjk, h => by
    by_cases e : j = k + 1
    · rw [e]
    · rw [ptK, if_neg (h k (by omega) (by omega))]
      exact ptK_no l j k (by omega) (fun i h1 h2 => h i h1 (by omega))
theorem ptK_hit (A B : List UInt8) (hB : ∀ x ∈ B, x ≠ 46) : ptK (A ++ 46 :: B) (A ++ 46 :: B).length = B.length := by
  have hl : (A ++ 46 :: B).length = A.length + 1 + B.length := by simp; omega
  rw [ptK_no _ (A.length + 1) _ (by omega), ptK, if_pos (by simp [List.getD_eq_getElem?_getD])]
  · omega
  · intro i h1 h2
    have hi : i - (A.length + 1) < B.length := by omega
    have e : (A ++ 46 :: B).getD i 0 = B[i - (A.length + 1)] := by
      rw [List.getD_eq_getElem?_getD, List.getElem?_append_right (by omega)]
      obtain ⟨m, hm⟩ : ∃ m, i - A.length = m + 1 := ⟨i - A.length - 1, by omega⟩
      have hm2 : i - (A.length + 1) = m := by omega
      simp only [hm, List.getElem?_cons_succ, hm2]
      rw [List.getElem?_eq_getElem (by omega)]
      rfl
    rw [e]
    exact hB _ (List.getElem_mem _)
theorem ptK_none (l : List UInt8) (h : ∀ x ∈ l, x ≠ 46) : ptK l l.length = 0 := by
  rw [ptK_no l 0 _ (Nat.zero_le _)]
  · rfl
  · intro i _ hi
    rw [List.getD_eq_getElem?_getD, List.getElem?_eq_getElem hi]
    exact h _ (List.getElem_mem _)
theorem dig_ne {d : List UInt8} (h : d.all isDig = true) : ∀ x ∈ d, x ≠ 46 := by
  rw [List.all_eq_true] at h
  intro x hx e
  have := h x hx
  rw [e] at this
  exact absurd this (by decide)

theorem text_point (n sc : Int) (h0 : 0 ≤ sc) (h9 : sc ≤ 9) (hn0 : -9223372036854775808 ≤ n) (hn1 : n ≤ 9223372036854775807) : ptK (textL n sc) (textL n sc).length = sc := by
  obtain ⟨k, z, e1, e2, e3, e4, e5, e6⟩ := pad_facts n.natAbs sc h0 (by omega) h9
  have hs : ∀ x ∈ (if n < 0 then [45] else [] : List UInt8), x ≠ 46 := by
    intro x hx
    split at hx
    · simp only [List.mem_singleton] at hx
      rw [hx]; decide
    · cases hx
  unfold textL pointL
  by_cases hsc : 0 < sc
  · rw [if_pos hsc, ← List.append_assoc, ptK_hit]
    · rw [List.length_drop]; omega
    · exact fun x hx => dig_ne e6 x (List.mem_of_mem_drop hx)
  · rw [if_neg hsc, ptK_none]
    · omega
    · intro x hx
      rw [List.mem_append] at hx
      exact hx.elim (hs x) (dig_ne e6 x)
theorem text_first (n sc : Int) (h0 : 0 ≤ sc) (h9 : sc ≤ 9) (hn0 : -9223372036854775808 ≤ n) (hn1 : n ≤ 9223372036854775807) :
    0 < (textL n sc).length ∧ (textL n sc).length ≤ 60 ∧ ((textL n sc).getD 0 0 = 45 ↔ n < 0) := by
  obtain ⟨k, z, e1, e2, e3, e4, e5, e6⟩ := pad_facts n.natAbs sc h0 (by omega) h9
  obtain ⟨c, t, hc, hd⟩ := point_head _ sc k h0 e3 e2 e6
  have hl : (pointL (padL (decDigits n.natAbs) sc) sc).length ≤ 40 := by
    unfold pointL
    split
    · rw [List.length_append, List.length_cons, List.length_take, List.length_drop]; omega
    · omega
  unfold textL
  by_cases h : n < 0
  · rw [if_pos h]
    refine ⟨by simp, by rw [List.length_append]; simp; omega, ?_⟩
    simp [h]
  · rw [if_neg h, List.nil_append]
    refine ⟨by rw [hc]; simp, by omega, ?_⟩
    rw [hc]
    simp only [List.getD_cons_zero]
    constructor
    · rintro rfl
      exact absurd hd (by decide)
    · intro h'; exact absurd h' h
theorem bs_index (l : List UInt8) (k : Nat) (h : k < (bs l).size) : (bs l)[k]'h = l.getD k 0 := by
  have hk : k < l.length := by rw [← bs_size]; exact h
  rw [List.getD_eq_getElem?_getD, List.getElem?_eq_getElem hk]
  rfl
theorem bs_eq (a b : List UInt8) : ((bs a).toList == (bs b).toList) = decide (a = b) := by
  rw [Bool.eq_iff_iff, beq_iff_eq, decide_eq_true_eq]
  constructor
  · intro h
    rw [ByteArray.toList_eq, ByteArray.toList_eq] at h
    exact h
  · rintro rfl; rfl

set_option maxHeartbeats 400000 in
theorem orderWritten_bad (a b sc : Int) (h : sc < 0 ∨ 9 < sc) (w : World) (hL : LayN w) : Calls Tryd.prog 4 #[.int .i64 a, .int .i64 b, .int .i64 sc] w fun e w' => e = .returned (.bool true) ∧ Below w.heap.size w w' := by
  have H1 := Lib.hid (text_bad a sc h w)
  have H2 := Lib.hid (fun W => text_bad b sc h W)
  have HA := Lib.hid (fun W hW => awake_any W hW)
  have HL := Lib.hid hL
  clear hL
  by_cases h1 : sc < 0
  · clear h
    go_enter Tryd.func4, Tryd.ntmps4
    go_wp2_with fail
    refine H1.out.mono ?_
    rintro e w1 ⟨rfl, b1⟩
    go_wp2_with fail
    refine (H2.out _).mono ?_
    rintro e w2 ⟨rfl, b2⟩
    have b12 := below_next b1 (Nat.le_refl _) b2
    go_wp2_with fail
    refine (HA.out _ (HL.out.below b12)).mono ?_
    rintro e w3 ⟨rfl, b3⟩
    go_wp2_with fail
    go_ret
    exact ⟨rfl, below_next b12 (Nat.le_refl _) b3⟩
  · have h2 : 9 < sc := by omega
    clear h
    go_enter Tryd.func4, Tryd.ntmps4
    go_wp2_with fail
    refine H1.out.mono ?_
    rintro e w1 ⟨rfl, b1⟩
    go_wp2_with fail
    refine (H2.out _).mono ?_
    rintro e w2 ⟨rfl, b2⟩
    have b12 := below_next b1 (Nat.le_refl _) b2
    go_wp2_with fail
    refine (HA.out _ (HL.out.below b12)).mono ?_
    rintro e w3 ⟨rfl, b3⟩
    go_wp2_with fail
    go_ret
    exact ⟨rfl, below_next b12 (Nat.le_refl _) b3⟩

set_option maxHeartbeats 1600000 in
set_option maxRecDepth 100000 in
theorem orderWritten_good (a b sc : Int) (h0 : 0 ≤ sc) (h9 : sc ≤ 9) (ha0 : -9223372036854775808 ≤ a) (ha1 : a ≤ 9223372036854775807) (hb0 : -9223372036854775808 ≤ b) (hb1 : b ≤ 9223372036854775807)
    (w : World) (hL : LayN w) : Calls Tryd.prog 4 #[.int .i64 a, .int .i64 b, .int .i64 sc] w fun e w' => e = .returned (.bool true) ∧ Below w.heap.size w w' := by
  have H1 := Lib.hid (text_good a sc h0 h9 ha0 ha1 w hL)
  have H2 := Lib.hid (fun W hW => text_good b sc h0 h9 hb0 hb1 W hW)
  obtain ⟨fa1, fa2, fa3⟩ := text_first a sc h0 h9 ha0 ha1
  obtain ⟨_, fb2, _⟩ := text_first b sc h0 h9 hb0 hb1
  have H3 := fun W hW => decimal_any (textL a sc) sc (by omega) W hW
  have H4 := fun W hW => decimal_any (textL b sc) sc (by omega) W hW
  rw [dec_text a sc h0 h9 ha0 ha1] at H3
  rw [dec_text b sc h0 h9 hb0 hb1] at H4
  have HP := text_point a sc h0 h9 ha0 ha1
  have heq : ((bs (textL a sc)).toList == (bs (textL b sc)).toList) = (a == b) := by
    rw [bs_eq, Bool.eq_iff_iff, decide_eq_true_eq, beq_iff_eq]
    exact ⟨fun h => text_inj h0 h9 ha0 ha1 hb0 hb1 h, fun h => by rw [h]⟩
  have HA := Lib.hid (fun W hW => awake_any W hW)
  have HL := Lib.hid hL
  have HI := Lib.hid (bs_index (textL a sc))
  generalize textL a sc = l at *
  generalize textL b sc = m at *
  have zl := bs_size l
  have HEQ := Lib.hid heq
  have H3' := Lib.hid H3
  have H4' := Lib.hid H4
  have HPT := Lib.hid HP
  have H45 := Lib.hid fa3
  clear hL heq H3 H4 HP fa3
  have h1 : ¬ sc < 0 := by omega
  have h2 : ¬ 9 < sc := by omega
  go_enter Tryd.func4, Tryd.ntmps4
  go_wp2_with fail
  refine H1.out.mono ?_
  rintro e w1 ⟨rfl, b1⟩
  go_wp2_with fail
  refine (H2.out _ (HL.out.below b1)).mono ?_
  rintro e w2 ⟨rfl, b2⟩
  have b12 := below_next b1 (Nat.le_refl _) b2
  go_wp2_with fail
  refine (H3'.out _ (HL.out.below b12)).mono ?_
  rintro e w3 ⟨rfl, b3⟩
  have b13 := below_next b12 (Nat.le_refl _) b3
  go_wp2_with fail
  refine (H4'.out _ (HL.out.below b13)).mono ?_
  rintro e w4 ⟨rfl, b4⟩
  have b14 := below_next b13 (Nat.le_refl _) b4
  go_wp2_with fail
  go_loop [15, 16] (fun p i => ∃ k : Nat, k ≤ l.length ∧ i = .int .i64 k ∧ p = .int .i64 (ptK l k)) (fun _ i => l.length - (intOf i).toNat)
  case atStart => exact ⟨0, Nat.zero_le _, rfl, rfl⟩
  case round =>
    obtain ⟨k, hk, rfl, rfl⟩ := hrel
    by_cases hlt : k < l.length
    · have hks : k < (bs l).size := by rw [zl]; exact hlt
      by_cases hc : l.getD k 0 = 46
      · have hcc : (((bs l)[k]'hks).toNat : Int) = 46 := by rw [HI.out k hks, hc]; rfl
        have HS := Lib.hid (show ptK l (k + 1) = (l.length : Int) - k - 1 by rw [ptK, if_pos hc])
        clear hc
        go_wp2_with fail
        go_round
        case rel => exact ⟨k + 1, by omega, by go_num, by rw [HS.out]⟩
        case measure => simp [intOf]; omega
      · have hcc : ¬ (((bs l)[k]'hks).toNat : Int) = 46 := by
          rw [HI.out k hks]
          intro h
          exact hc (UInt8.toNat_inj.1 (by have : (46 : UInt8).toNat = 46 := rfl; omega))
        have HS := Lib.hid (show ptK l (k + 1) = ptK l k by rw [ptK, if_neg hc])
        clear hc
        go_wp2_with fail
        go_round
        case rel => exact ⟨k + 1, by omega, by go_num, by rw [HS.out]⟩
        case measure => simp [intOf]; omega
    · have hk2 : k = l.length := by omega
      subst hk2
      have h00 : 0 < (bs l).size := by rw [zl]; exact fa1
      have hp := HPT.out
      have heq := HEQ.out
      have hfirst : ((((bs l)[0]'h00).toNat : Int) == 45) = decide (a < 0) := by
        rw [HI.out 0 h00, Bool.eq_iff_iff, beq_iff_eq, decide_eq_true_eq]
        rw [← H45.out]
        constructor
        · intro h
          exact UInt8.toNat_inj.1 (by have : (45 : UInt8).toNat = 45 := rfl; omega)
        · rintro h; rw [h]; rfl
      rw [hp]
      clear hp
      go_wp2_with fail
      refine (HA.out _ (HL.out.below b14)).mono ?_
      rintro e w5 ⟨rfl, b5⟩
      go_wp2_with fail
      go_ret
      exact ⟨rfl, below_next b14 (Nat.le_refl _) b5⟩

theorem orderWritten_any (a b sc : Int) (ha0 : -9223372036854775808 ≤ a) (ha1 : a ≤ 9223372036854775807) (hb0 : -9223372036854775808 ≤ b) (hb1 : b ≤ 9223372036854775807)
    (w : World) (hL : LayN w) : Calls Tryd.prog 4 #[.int .i64 a, .int .i64 b, .int .i64 sc] w fun e w' => e = .returned (.bool true) ∧ Below w.heap.size w w' := by
  by_cases h : sc < 0 ∨ 9 < sc
  · exact orderWritten_bad a b sc h w hL
  · exact orderWritten_good a b sc (by omega) (by omega) ha0 ha1 hb0 hb1 w hL
end Go.Proofs.YtfmholpbpghojaaDoor
