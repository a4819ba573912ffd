import Derived.Test.YtfmholpbpghojaaDoorSchC
/-! What the reference computes: Name, Check of a chain, Find (plain). -/
namespace Go.Proofs.YtfmholpbpghojaaDoor
set_option linter.unusedVariables false
set_option linter.unusedSimpArgs false
open Go.RowKit Go.Lib
open Go.Proofs.YtfmholpbpghojaaDoor.RSchemaChecks
open Go.Proofs.YtfmholpbpghojaaDoorW.PrintWords

theorem wr1 (i n : Nat) (h : i < n) (hn : n < 2 ^ 62) : wrap64 ((i : Int) + 1) = ((i + 1 : Nat) : Int) := by unfold wrap64; omega
theorem okC_iff (i : Nat) (c : UInt8) : okC i c = true ↔ (97 ≤ (c.toNat : Int) ∧ (c.toNat : Int) ≤ 122) ∨ (c.toNat : Int) = 95 ∨ (0 < (i : Int) ∧ 48 ≤ (c.toNat : Int) ∧ (c.toNat : Int) ≤ 57) := by
  simp only [okC, Bool.or_eq_true, Bool.and_eq_true, decide_eq_true_eq, beq_iff_eq, or_assoc, and_assoc]
theorem bt_getD (s : ByteArray) (i : Nat) : bt s (i : Int) = ((s.data.toList.getD i 0).toNat : Int) := by
  unfold bt
  by_cases h : i < s.size
  · rw [dif_pos (by simpa using h)]
    have hd : i < s.data.toList.length := by rw [Go.Proofs.YtfmholpbpghojaaDoorW.PrintWords.data_length]; exact h
    simp only [Int.toNat_natCast]
    rw [List.getD_eq_getElem?_getD, List.getElem?_eq_getElem hd]
    rfl
  · rw [dif_neg (by simpa using h)]
    have hd : ¬ i < s.data.toList.length := by rw [Go.Proofs.YtfmholpbpghojaaDoorW.PrintWords.data_length]; exact h
    rw [List.getD_eq_getElem?_getD, List.getElem?_eq_none (by omega)]
    rfl
theorem rname_l0 (s : ByteArray) (hz : s.size < 2 ^ 60) : ∀ (n i : Nat), i + n = s.size → ∃ K, ∀ k, K ≤ k → lecternref08_Name.l0 k s (i : Int) = some (okL i (s.data.toList.drop i) && (decide (1 ≤ (s.size : Int)) && decide ((s.size : Int) ≤ 24))) := by
  intro n
  induction n with
  | zero =>
    intro i hi
    refine ⟨1, fun k hk => ?_⟩
    obtain ⟨k, rfl⟩ : ∃ j, k = j + 1 := ⟨k - 1, by omega⟩
    have hd : s.data.toList.drop i = [] := List.drop_eq_nil_of_le (by rw [Go.Proofs.YtfmholpbpghojaaDoorW.PrintWords.data_length]; omega)
    unfold lecternref08_Name.l0
    rw [if_neg (by omega), hd]
    by_cases h : (s.size : Int) > 0
    · rw [if_pos h, decide_eq_true (show 1 ≤ (s.size : Int) by omega)]
      simp [okL]
    · rw [if_neg h, decide_eq_false (show ¬ 1 ≤ (s.size : Int) by omega)]
      simp [okL]
  | succ n ih =>
    intro i hi
    obtain ⟨K, hK⟩ := ih (i + 1) (by omega)
    refine ⟨K + 1, fun k hk => ?_⟩
    obtain ⟨k, rfl⟩ : ∃ j, k = j + 1 := ⟨k - 1, by omega⟩
    have hw := wr1 i s.size (by omega) (by omega)
    have hd : s.data.toList.drop i = s.data.toList.getD i 0 :: s.data.toList.drop (i + 1) := dropG _ i (by rw [Go.Proofs.YtfmholpbpghojaaDoorW.PrintWords.data_length]; omega)
    have ih' := hK k (by omega)
    have hi0 : ((i : Int) = 0) ↔ i = 0 := by omega
    unfold lecternref08_Name.l0
    rw [if_pos (show (i : Int) < s.size by omega), if_pos (show (0 : Int) ≤ i by omega), bt_getD, hw, ih', hd]
    generalize s.data.toList.getD i 0 = c at *
    generalize s.data.toList.drop (i + 1) = r at *
    generalize (decide (1 ≤ (s.size : Int)) && decide ((s.size : Int) ≤ 24)) = fin at *
    have hc := okC_iff i c
    show _ = some ((okC i c && okL (i + 1) r) && fin)
    by_cases h : okC i c = true
    · rw [h, Bool.true_and]
      rw [h] at hc
      have h1 := hc.1 rfl
      (repeat' split) <;> first | rfl | (exfalso; omega)
    · have h0 : okC i c = false := by simpa using h
      rw [h0, Bool.false_and, Bool.false_and]
      have h1 : ¬ ((97 ≤ (c.toNat : Int) ∧ (c.toNat : Int) ≤ 122) ∨ (c.toNat : Int) = 95 ∨ (0 < (i : Int) ∧ 48 ≤ (c.toNat : Int) ∧ (c.toNat : Int) ≤ 57)) := fun e => h (hc.2 e)
      (repeat' split) <;> first | rfl | (exfalso; omega)
theorem rname_f (s : ByteArray) (hz : s.size < 2 ^ 60) : ∃ k, lecternref08_Name.f k s = some (nameB s) := by
  obtain ⟨K, hK⟩ := rname_l0 s hz s.size 0 (by omega)
  exact ⟨K, hK K (Nat.le_refl _)⟩
theorem findI_cons (name : ByteArray) (x : S66) (r : List S66) (i : Nat) : findI name (x :: r) i = if (x.f0.toList == name.toList) = true then (i : Int) else findI name r (i + 1) := rfl
theorem rfind_l0 (fs : List S66) (name : ByteArray) (hz : fs.length < 2 ^ 60) : ∀ (n i : Nat), i + n = fs.length → ∃ K, ∀ k, K ≤ k → lecternref08_Find.l0 k name (i : Int) fs = some (findI name (fs.drop i) i) := by
  intro n
  induction n with
  | zero =>
    intro i hi
    refine ⟨1, fun k hk => ?_⟩
    obtain ⟨k, rfl⟩ : ∃ j, k = j + 1 := ⟨k - 1, by omega⟩
    unfold lecternref08_Find.l0
    rw [if_neg (by omega), List.drop_eq_nil_of_le (by omega)]
    rfl
  | succ n ih =>
    intro i hi
    obtain ⟨K, hK⟩ := ih (i + 1) (by omega)
    refine ⟨K + 1, fun k hk => ?_⟩
    obtain ⟨k, rfl⟩ : ∃ j, k = j + 1 := ⟨k - 1, by omega⟩
    have hw := wr1 i fs.length (by omega) (by omega)
    unfold lecternref08_Find.l0
    rw [if_pos (show (i : Int) < fs.length by omega), if_pos (show (0 : Int) ≤ i by omega), hw, hK k (by omega), rd_dropF fs i (by omega), findI_cons]
    by_cases h : (rd_T66 fs i).f0.toList = name.toList
    · rw [if_pos h, if_pos (by simpa using h)]
    · rw [if_neg h, if_neg (by simpa using h)]
theorem rfind_f (fs : List S66) (name : ByteArray) (hz : fs.length < 2 ^ 60) : ∃ k, lecternref08_Find.f k fs name = some (findI name fs 0) := by
  obtain ⟨K, hK⟩ := rfind_l0 fs name hz fs.length 0 (by omega)
  exact ⟨K, hK K (Nat.le_refl _)⟩
theorem rfilter_f (n : Int) : lecternref06_Filter.f n = some (isFilter n) := by
  unfold lecternref06_Filter.f isFilter
  by_cases h : n ≥ 10
  · rw [if_pos h, decide_eq_true h, Bool.true_and]
  · rw [if_neg h, decide_eq_false h, Bool.false_and]
theorem rchain_l1 (l : List Int) (i : Nat) (hi : i < l.length) (hz : l.length < 2 ^ 60) (r : Int) (K0 : Nat) (h0 : ∀ k, K0 ≤ k → lecternref06_Check.l0 k l ((i + 1 : Nat) : Int) = some r) : ∀ (n j : Nat), j + n = i →
    ∃ K, ∀ k, K ≤ k → lecternref06_Check.l1 k l (i : Int) (j : Int) = some (if ((l.take i).drop j).contains (l.getD i 0) = true then 60 else r) := by
  intro n
  induction n with
  | zero =>
    intro j hj
    refine ⟨K0 + 1, fun k hk => ?_⟩
    obtain ⟨k, rfl⟩ : ∃ j, k = j + 1 := ⟨k - 1, by omega⟩
    have hd : (l.take i).drop j = [] := List.drop_eq_nil_of_le (by rw [List.length_take]; omega)
    unfold lecternref06_Check.l1
    rw [if_neg (by omega), wr1 i l.length hi (by omega), h0 k (by omega), hd]
    rfl
  | succ n ih =>
    intro j hj
    obtain ⟨K, hK⟩ := ih (j + 1) (by omega)
    refine ⟨K + 1, fun k hk => ?_⟩
    obtain ⟨k, rfl⟩ : ∃ j, k = j + 1 := ⟨k - 1, by omega⟩
    have hw := wr1 j l.length (by omega) (by omega)
    have hjt : j < (l.take i).length := by rw [List.length_take]; omega
    have hd := dropI (l.take i) j hjt
    have hg : (l.take i).getD j 0 = l.getD j 0 := by
      rw [List.getD_eq_getElem?_getD, List.getD_eq_getElem?_getD, List.getElem?_take_of_lt (by omega)]
    have ha : rd l (j : Int) = l.getD j 0 := by simp [rd]
    have hb : rd l (i : Int) = l.getD i 0 := by simp [rd]
    unfold lecternref06_Check.l1
    rw [if_pos (show (j : Int) < i by omega), if_pos (show (0 : Int) ≤ j by omega), if_pos (show (j : Int) < l.length by omega), if_pos (show (0 : Int) ≤ i by omega), if_pos (show (i : Int) < l.length by omega), ha, hb, hw, hK k (by omega), hd, hg, List.contains_cons]
    by_cases h : l.getD j 0 = l.getD i 0
    · rw [if_pos h, h]
      simp
    · rw [if_neg h, show (l.getD i 0 == l.getD j 0) = false from beq_eq_false_iff_ne.2 (fun e => h e.symm), Bool.false_or]
theorem rchain_l0 (t : Int) (q : List Int) (h1 : 1 ≤ t) (h4 : t ≤ 4) (hz : q.length < 2 ^ 59) : ∀ (n i : Nat), i + n = q.length →
    ∃ K, ∀ k, K ≤ k → lecternref06_Check.l0 k (t :: q) ((i + 1 : Nat) : Int) = some (if chk (q.take i) (q.drop i) = true then 0 else 60) := by
  intro n
  induction n with
  | zero =>
    intro i hi
    refine ⟨1, fun k hk => ?_⟩
    obtain ⟨k, rfl⟩ : ∃ j, k = j + 1 := ⟨k - 1, by omega⟩
    unfold lecternref06_Check.l0
    rw [if_neg (by simp; omega), List.drop_eq_nil_of_le (by omega)]
    rfl
  | succ n ih =>
    intro i hi
    obtain ⟨K, hK⟩ := ih (i + 1) (by omega)
    obtain ⟨K1, hK1⟩ := rchain_l1 (t :: q) (i + 1) (by simp; omega) (by simp; omega) _ K hK (i + 1) 0 (by omega)
    refine ⟨K1 + 2, fun k hk => ?_⟩
    obtain ⟨k, rfl⟩ : ∃ j, k = j + 2 := ⟨k - 2, by omega⟩
    have hiq : i < q.length := by omega
    have hrd : rd (t :: q) ((i + 1 : Nat) : Int) = q.getD i 0 := by simp [rd]
    have hg : (t :: q).getD (i + 1) 0 = q.getD i 0 := by simp
    have hk1 := hK1 k (by omega)
    rw [hg, List.drop_zero, List.take_succ_cons, List.contains_cons] at hk1
    unfold lecternref06_Check.l0
    rw [if_pos (by simp; omega), if_neg (by omega), if_pos (by omega), if_pos (by omega), hrd, rfilter_f, dropI q i hiq]
    simp only [Option.bind_some]
    unfold chk lecternref06_Check.j2
    rw [← takeI q i hiq]
    by_cases hf : isFilter (q.getD i 0) = true
    · have hne : (q.getD i 0 == t) = false := by
        simp only [isFilter, Bool.and_eq_true, decide_eq_true_eq] at hf
        exact beq_eq_false_iff_ne.2 (by omega)
      rw [hne, Bool.false_or] at hk1
      rw [hf, if_neg (by decide), Bool.true_and]
      rw [show ((0 : Nat) : Int) = 0 from rfl] at hk1
      rw [hk1]
      by_cases hc : (q.take i).contains (q.getD i 0) = true
      · rw [if_pos hc, hc]
        rfl
      · have hc' : (q.take i).contains (q.getD i 0) = false := by simpa using hc
        rw [if_neg hc, hc']
        rfl
    · have hf' : isFilter (q.getD i 0) = false := by simpa using hf
      rw [hf', if_pos (by decide), Bool.false_and]
      rfl
theorem chainB_cons (t : Int) (r : List Int) : chainB (t :: r) = (decide (r.length ≤ 7) && (decide (1 ≤ t) && decide (t ≤ 4)) && chk [] r) := rfl
theorem rchain_j0 (k : Nat) (l : List Int) (b : Bool) : lecternref06_Check.j0 (k + 1) l b = if b = true then some 60 else lecternref06_Check.l0 k l 0 := by
  unfold lecternref06_Check.j0
  rfl
theorem rchain_j2 (k : Nat) (l : List Int) (i : Int) (b : Bool) : lecternref06_Check.j2 (k + 1) l i b = if b = true then some 60 else lecternref06_Check.l1 k l i 0 := by
  unfold lecternref06_Check.j2
  rfl
theorem rchain_first (k : Nat) (t : Int) (q : List Int) : lecternref06_Check.l0 (k + 1) (t :: q) 0 = lecternref06_Check.j2 k (t :: q) 0 (!(decide (1 ≤ t) && decide (t ≤ 4))) := by
  have hrd : rd (t :: q) 0 = t := by simp [rd]
  unfold lecternref06_Check.l0
  rw [if_pos (show (0 : Int) < ((t :: q).length : Int) by simp only [List.length_cons]; omega), if_pos rfl, if_pos (by omega), hrd]
  by_cases h1 : 1 ≤ t
  · by_cases h4 : t ≤ 4
    · rw [if_neg (by omega), if_neg (by omega), if_neg (by omega), decide_eq_true h1, decide_eq_true h4]
      rfl
    · rw [if_neg (by omega), if_pos (by omega), decide_eq_false h4, Bool.and_false]
      rfl
  · rw [if_pos (by omega), decide_eq_false h1, Bool.false_and]
    rfl
theorem rchain_f (l : List Int) (hz : l.length < 2 ^ 59) : ∃ k, lecternref06_Check.f k l = some (if chainB l = true then 0 else 60) := by
  cases l with
  | nil =>
    refine ⟨1, ?_⟩
    unfold lecternref06_Check.f lecternref06_Check.j0
    rfl
  | cons t q =>
    unfold lecternref06_Check.f
    have hl : ¬ (((t :: q).length : Int) = 0) := by simp; omega
    simp only [if_neg hl]
    rw [chainB_cons]
    by_cases h8 : ((t :: q).length : Int) > 8
    · refine ⟨0 + 1, ?_⟩
      rw [decide_eq_true h8, rchain_j0, if_pos rfl, decide_eq_false (show ¬ q.length ≤ 7 by simp at h8; omega)]
      rfl
    · rw [decide_eq_false h8, decide_eq_true (show q.length ≤ 7 by simp at h8; omega), Bool.true_and]
      by_cases h14 : (decide (1 ≤ t) && decide (t ≤ 4)) = true
      · have h14' := h14
        rw [Bool.and_eq_true, decide_eq_true_eq, decide_eq_true_eq] at h14'
        obtain ⟨K, hK⟩ := rchain_l0 t q h14'.1 h14'.2 (by simp at hz; omega) q.length 0 (by omega)
        obtain ⟨K1, hK1⟩ := rchain_l1 (t :: q) 0 (by simp) (by simp at hz ⊢; omega) _ K hK 0 0 (by omega)
        refine ⟨K1 + 1 + 1 + 1, ?_⟩
        have hk1 := hK1 K1 (Nat.le_refl _)
        rw [rchain_j0, if_neg (by decide), rchain_first, h14, rchain_j2, if_neg (by decide)]
        rw [show ((0 : Nat) : Int) = 0 from rfl] at hk1
        rw [hk1]
        simp
      · have h14' : (decide (1 ≤ t) && decide (t ≤ 4)) = false := by simpa using h14
        refine ⟨0 + 1 + 1 + 1, ?_⟩
        rw [rchain_j0, if_neg (by decide), rchain_first, h14', rchain_j2, if_pos (by decide)]
        rfl
end Go.Proofs.YtfmholpbpghojaaDoor
