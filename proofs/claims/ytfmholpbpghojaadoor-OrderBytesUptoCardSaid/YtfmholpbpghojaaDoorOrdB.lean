import Derived.Test.YtfmholpbpghojaaDoorOrdF
/-! Order: Rows; the law OrderBytes. -/
namespace Go.Proofs.YtfmholpbpghojaaDoor
set_option linter.unusedVariables false
set_option linter.unusedSimpArgs false
open Go.RowKit Go.Lib
open Go.Proofs.YtfmholpbpghojaaDoor.ROrderBytes
open Go.Proofs.YtfmholpbpghojaaDoorW.PrintWords
attribute [local go_sem high] eqA49

theorem compareFunc_any (a b : List S49) (A B : Option Addr) (ca cb : Nat) (w : World) (ha : Kd.C k49 w A a.length a) (hb : Kd.C k49 w B b.length b) (hca : a.length ≤ ca) (hcb : b.length ≤ cb) :
    Calls Tryd.prog 63 #[.slice A a.length ca, .slice B b.length cb, .func (.func 24) #[] #[]] w fun e w' => e = .returned (.int .i64 (cmpR a b)) ∧ Below w.heap.size w w' := by
  have HA := Lib.hid ha
  have HB := Lib.hid hb
  go_enter Tryd.func63, Tryd.ntmps63
  clear ha hb
  have hsa : a.length < 9223372036854775808 := by have := HA.out.2.1; omega
  have hsb : b.length < 9223372036854775808 := by have := HB.out.2.1; omega
  obtain ⟨R, hR⟩ : ∃ R, R = cmpR a b := ⟨_, rfl⟩
  have HR := Lib.hid (show cmpR (a.drop 0) (b.drop 0) = R from hR.symm)
  rw [← hR]
  clear hR
  go_wp2_with fail
  go_loopg [13] a.length (fun kq v13 w' => ∃ i : Nat, v13 = .int .i64 (i : Int) ∧ Hid (i + kq = a.length ∧ i ≤ b.length) ∧ Hid (cmpR (a.drop i) (b.drop i) = R) ∧ Hid (Below w.heap.size w w'))
  case atStart => exact ⟨0, rfl, ⟨by omega, Nat.zero_le _⟩, HR, Below.refl _ _⟩
  case round =>
    obtain ⟨i, rfl, hi, hr, hbl⟩ := hrel
    have hi1 := hi.out.1
    have hi2 := hi.out.2
    have hni : (0 : Int) ≤ i := by omega
    cases gk with
    | zero =>
      have e0 := hr.out
      rw [List.drop_eq_nil_of_le (by omega)] at e0
      have h1 : ¬ (i : Int) < a.length := by omega
      by_cases h2 : (a.length : Int) < b.length
      · have e1 : b.drop i ≠ [] := by intro h; rw [List.drop_eq_nil_iff] at h; omega
        have e2 : R = -1 := by
          rw [← e0]
          cases hd : b.drop i with
          | nil => exact absurd hd e1
          | cons y l => rfl
        subst e2
        go_wp2_with fail
        go_ret
        exact ⟨rfl, hbl.out⟩
      · have e2 : R = 0 := by
          rw [← e0, List.drop_eq_nil_of_le (by omega)]
          rfl
        subst e2
        go_wp2_with fail
        go_ret
        exact ⟨rfl, hbl.out⟩
    | succ k =>
      have hia : i < a.length := by omega
      have hia' : (i : Int) < a.length := by omega
      obtain ⟨ad, eA, hx0, hx1, hx2⟩ := at_T49 HA.out i hni hia'
      subst eA
      rw [Int.toNat_natCast] at hx0 hx1 hx2
      have hl0 := World.block_lt_of_cell? w _ hx0
      have hl1 := hbl.out.size
      have hl2 : (ad.add (i * 3)).block < wr.heap.size := Nat.lt_of_lt_of_le hl0 hl1
      replace hx0 := (hbl.out.cell hl0).trans hx0
      replace hx1 := (hbl.out.cell (World.block_lt_of_cell? w _ hx1)).trans hx1
      replace hx2 := (hbl.out.cell (World.block_lt_of_cell? w _ hx2)).trans hx2
      have e0 := hr.out
      rw [rd_drop a i hia] at e0
      by_cases hib : i < b.length
      · have hib' : (i : Int) < b.length := by omega
        obtain ⟨bd, eB, hy0, hy1, hy2⟩ := at_T49 HB.out i hni hib'
        subst eB
        rw [Int.toNat_natCast] at hy0 hy1 hy2
        have hm0 := World.block_lt_of_cell? w _ hy0
        have hm2 : (bd.add (i * 3)).block < wr.heap.size := Nat.lt_of_lt_of_le hm0 hl1
        replace hy0 := (hbl.out.cell hm0).trans hy0
        replace hy1 := (hbl.out.cell (World.block_lt_of_cell? w _ hy1)).trans hy1
        replace hy2 := (hbl.out.cell (World.block_lt_of_cell? w _ hy2)).trans hy2
        rw [rd_drop b i hib] at e0
        unfold cmpR at e0
        have HC := Lib.hid (fun W => compare_any (kk (rd_T49 a i)) (kk (rd_T49 b i)) W)
        generalize cmpK (kk (rd_T49 a i)) (kk (rd_T49 b i)) = c at *
        have HE := Lib.hid e0
        clear e0
        by_cases hc : c = 0
        · subst hc
          go_wp2_with fail
          refine (HC.out _).mono ?_
          rintro e w1 ⟨rfl, b1⟩
          have HB1 := Lib.hid (((hbl.out.alloc hl1 _).alloc (by rw [World.size_alloc]; omega) _).trans (b1.mono (by rw [World.size_alloc, World.size_alloc]; omega)))
          clear b1
          go_wp2_with fail
          go_roundg k
          case measure => omega
          case rel =>
            have e1 := HE.out
            rw [if_neg (by omega)] at e1
            exact ⟨i + 1, by go_num, by constructor <;> omega, e1, HB1⟩
        · have hcb0 : (c != 0) = true := by simpa using hc
          have e1 := HE.out
          rw [if_pos hc] at e1
          subst e1
          go_wp2_with fail
          refine (HC.out _).mono ?_
          rintro e w1 ⟨rfl, b1⟩
          have HB1 := Lib.hid (((hbl.out.alloc hl1 _).alloc (by rw [World.size_alloc]; omega) _).trans (b1.mono (by rw [World.size_alloc, World.size_alloc]; omega)))
          clear b1
          go_wp2_with fail
          go_ret
          exact ⟨rfl, HB1.out⟩
      · rw [List.drop_eq_nil_of_le (show b.length ≤ i by omega)] at e0
        have e2 : R = 1 := e0.symm
        subst e2
        have hib' : (b.length : Int) ≤ i := by omega
        go_wp2_with fail
        go_ret
        exact ⟨rfl, hbl.out.alloc hl1 _⟩
theorem rows_any (a b : List S49) (A B : Option Addr) (ca cb : Nat) (w : World) (ha : Kd.C k49 w A a.length a) (hb : Kd.C k49 w B b.length b) (hca : a.length ≤ ca) (hcb : b.length ≤ cb) :
    Calls Tryd.prog 35 #[.slice A a.length ca, .slice B b.length cb] w fun e w' => e = .returned (.int .i64 (cmpR a b)) ∧ Below w.heap.size w w' := by
  have H := Lib.hid (compareFunc_any a b A B ca cb w ha hb hca hcb)
  go_enter Tryd.func35, Tryd.ntmps35
  go_wp2_with fail
  refine H.out.mono ?_
  rintro e w1 ⟨rfl, b1⟩
  go_wp2_with fail
  go_ret
  exact ⟨rfl, b1⟩
theorem keysEq_l0 (a b : List S49) (hl : a.length = b.length) (hz : a.length < 2 ^ 60) : ∀ (n i k : Nat), i + n = a.length → n + 1 ≤ k →
    lecternkit_Keys.l0 k a b (i : Int) = some (cmpR (a.drop i) (b.drop i) == 0) := by
  intro n
  induction n with
  | zero =>
    intro i k hi hk
    obtain ⟨k, rfl⟩ : ∃ j, k = j + 1 := ⟨k - 1, by omega⟩
    unfold lecternkit_Keys.l0
    rw [if_neg (by omega), List.drop_eq_nil_of_le (by omega), List.drop_eq_nil_of_le (by omega)]
    rfl
  | succ n ih =>
    intro i k hi hk
    obtain ⟨k, rfl⟩ : ∃ j, k = j + 1 := ⟨k - 1, by omega⟩
    have hw : wrap64 ((i : Int) + 1) = ((i + 1 : Nat) : Int) := by unfold wrap64; omega
    have hk' := ih (i + 1) k (by omega) (by omega)
    unfold lecternkit_Keys.l0
    rw [if_pos (by omega), if_pos (by omega), if_pos (by omega), hw, hk', rd_drop a i (by omega), rd_drop b i (by omega)]
    have hz := cmpK_zero (kk (rd_T49 a i)) (kk (rd_T49 b i))
    unfold eqK at hz
    have hq : (!((rd_T49 a i).f0 == (rd_T49 b i).f0) || (!((rd_T49 a i).f1 == (rd_T49 b i).f1) || !((rd_T49 a i).f2.toList == (rd_T49 b i).f2.toList))) = !(cmpK (kk (rd_T49 a i)) (kk (rd_T49 b i)) == 0) := by
      rw [hz]
      simp only [kk, Bool.not_and]
    rw [hq]
    by_cases h0 : cmpK (kk (rd_T49 a i)) (kk (rd_T49 b i)) = 0
    · have e1 : cmpR (rd_T49 a i :: a.drop (i + 1)) (rd_T49 b i :: b.drop (i + 1)) = cmpR (a.drop (i + 1)) (b.drop (i + 1)) := by
        show (if cmpK (kk (rd_T49 a i)) (kk (rd_T49 b i)) ≠ 0 then _ else _) = _
        rw [if_neg (by simp [h0])]
      rw [if_neg (by simp [h0]), e1]
    · have e1 : cmpR (rd_T49 a i :: a.drop (i + 1)) (rd_T49 b i :: b.drop (i + 1)) = cmpK (kk (rd_T49 a i)) (kk (rd_T49 b i)) := by
        show (if cmpK (kk (rd_T49 a i)) (kk (rd_T49 b i)) ≠ 0 then _ else _) = _
        rw [if_pos h0]
      rw [if_pos (by simp [h0]), e1]
      simp [h0]
def eqKs (a b : List S49) : Bool := decide (a.length = b.length) && cmpR a b == 0
theorem keysEq_f (a b : List S49) (hz : a.length < 2 ^ 60) : lecternkit_Keys.f (a.length + 1) a b = some (eqKs a b) := by
  unfold lecternkit_Keys.f eqKs
  by_cases hl : a.length = b.length
  · have := keysEq_l0 a b hl hz a.length 0 (a.length + 1) (by omega) (by omega)
    rw [if_pos (by omega)]
    simp only [List.drop_zero] at this
    rw [show ((0 : Nat) : Int) = 0 from rfl] at this
    rw [this]
    simp [hl]
  · rw [if_neg (by omega)]
    simp [hl]
theorem length_szL : ∀ l : List S49, l.length ≤ szL l
  | [] => by simp
  | x :: l => by
    have := length_szL l
    have e : szL (x :: l) = szK x + szL l := by simp [szL]
    rw [e, List.length_cons]
    unfold szK
    omega
theorem take_all (a : List S49) (i : Nat) (h : i < a.length) : (a.take (i + 1)).all rightB = ((a.take i).all rightB && rightB (rd_T49 a (i : Int))) := by
  rw [List.take_succ_eq_append_getElem h, List.all_append]
  simp [rd_T49, h]
set_option maxHeartbeats 2000000 in
set_option maxRecDepth 100000 in
theorem orderBytes_walk (a b : List S49) (A B : Option Addr) (ca cb : Nat) (w : World) (hL : LayN w) (ha : Kd.C k49 w A a.length a) (hb : Kd.C k49 w B b.length b) (hca : a.length ≤ ca) (hcb : b.length ≤ cb)
    (ga : ∀ x ∈ a, inR x) (gb : ∀ x ∈ b, inR x) (sa : szL a < 4398046511103) (sb : szL b < 4398046511103) :
    Calls Tryd.prog 7 #[.slice A a.length ca, .slice B b.length cb] w fun e w' => e = .returned (.bool true) ∧ Below w.heap.size w w' := by
  have hla : a.length < 2 ^ 60 := by have := length_szL a; omega
  have hlb : b.length < 2 ^ 60 := by have := length_szL b; omega
  have HA := Lib.hid ha
  have HB := Lib.hid hb
  obtain ⟨⟨s, es⟩, hS⟩ : ∃ p, p = bytesL a := ⟨_, rfl⟩
  obtain ⟨⟨t, et⟩, hT⟩ : ∃ p, p = bytesL b := ⟨_, rfl⟩
  have H1 := Lib.hid (fun W h => order_Bytes.calls (szL a + 1) A ca a s es W h hca ((bytes_f a hla (by omega)).trans (by rw [← hS])))
  have H2 := Lib.hid (fun W h => order_Bytes.calls (szL b + 1) B cb b t et W h hcb ((bytes_f b hlb (by omega)).trans (by rw [← hT])))
  have HL := Lib.hid hL
  have HS := Lib.hid hS
  have HT := Lib.hid hT
  clear ha hb hL hS hT
  go_enter Tryd.func7, Tryd.ntmps7
  go_wp2_with fail
  refine (H1.out _ HA.out).mono ?_
  rintro e w1 ⟨rfl, b1⟩
  go_wp2_with fail
  refine (H2.out _ (Kd.C_below HB.out b1)).mono ?_
  rintro e w2 ⟨rfl, b2⟩
  have HB2 := Lib.hid (below_next b1 (Nat.le_refl _) b2)
  clear b1 b2
  go_wp2_with fail
  go_loopg [9, 10] a.length (fun kq v9 v10 w' => ∃ i : Nat, v9 = .bool ((a.take i).all rightB) ∧ v10 = .int .i64 (i : Int) ∧ Hid (i + kq = a.length) ∧ Hid (Below w.heap.size w w'))
  case atStart => exact ⟨0, rfl, rfl, by show _ = _; omega, HB2⟩
  case round =>
    obtain ⟨i, rfl, rfl, hi, hbl⟩ := hrel
    have hi1 := hi.out
    have hni : (0 : Int) ≤ i := by omega
    cases gk with
    | succ k =>
      have hia : i < a.length := by omega
      have hia' : (i : Int) < a.length := by omega
      have HTA := Lib.hid (take_all a i hia)
      cases hr : (a.take i).all rightB with
      | false =>
        rw [hr] at HTA
        go_wp2_with fail
        go_roundg k
        case measure => omega
        case rel => exact ⟨i + 1, by rw [HTA.out]; rfl, by go_num, by show _ = _; omega, hbl⟩
      | true =>
        rw [hr] at HTA
        obtain ⟨ad, eA, hx0, hx1, hx2⟩ := at_T49 HA.out i hni hia'
        subst eA
        rw [Int.toNat_natCast] at hx0 hx1 hx2
        replace hx0 := (hbl.out.cell (World.block_lt_of_cell? w _ hx0)).trans hx0
        replace hx1 := (hbl.out.cell (World.block_lt_of_cell? w _ hx1)).trans hx1
        replace hx2 := (hbl.out.cell (World.block_lt_of_cell? w _ hx2)).trans hx2
        have HR := Lib.hid (fun W => order_Right.calls _ _ _ _ W (right_f (rd_T49 a i)))
        go_wp2_with (go_at_call 32; refine (HR.out _).mono ?_; rintro e w3 ⟨rfl, b3⟩; have HB3 := Lib.hid (below_next hbl.out (Nat.le_refl _) b3); clear b3)
        go_roundg k
        case measure => omega
        case rel => exact ⟨i + 1, by rw [HTA.out]; rfl, by go_num, by show _ = _; omega, HB3⟩
    | zero =>
      have hi2 : i = a.length := by omega
      subst hi2
      rw [List.take_length]
      have HW := Lib.hid (fun W h => awake_any W h)
      cases hra : a.all rightB with
      | false =>
        have e0 := HS.out
        unfold bytesL at e0
        rw [hra, if_neg (by decide)] at e0
        injection e0 with e1 e2
        subst e1 e2
        go_wp2_with fail
        refine (HW.out _ (HL.out.below hbl.out)).mono ?_
        rintro e w4 ⟨rfl, b4⟩
        go_wp2_with fail
        go_ret
        exact ⟨rfl, below_next hbl.out (Nat.le_refl _) b4⟩
      | true =>
        have e0 := HS.out
        unfold bytesL at e0
        rw [hra, if_pos rfl] at e0
        injection e0 with e1 e2
        subst e2
        cases hrb : b.all rightB with
        | false =>
          have f0 := HT.out
          unfold bytesL at f0
          rw [hrb, if_neg (by decide)] at f0
          injection f0 with f1 f2
          subst f1 f2
          go_wp2_with fail
          refine (HW.out _ (HL.out.below hbl.out)).mono ?_
          rintro e w4 ⟨rfl, b4⟩
          go_wp2_with fail
          go_ret
          exact ⟨rfl, below_next hbl.out (Nat.le_refl _) b4⟩
        | true =>
          have f0 := HT.out
          unfold bytesL at f0
          rw [hrb, if_pos rfl] at f0
          injection f0 with f1 f2
          subst f2
          have Ga : good a := fun x hx => ⟨List.all_eq_true.1 hra x hx, ga x hx⟩
          have Gb : good b := fun x hx => ⟨List.all_eq_true.1 hrb x hx, gb x hx⟩
          have HK := Lib.hid (fun W => keys_any (szL a + 1) (encL a) W (a, 0) (by have := keys_back a (szL a + 1) [] Ga (Nat.le_refl _) (by simpa using sa); simpa using this))
          have hsgn : lecternlaw07_sign.f s t = some (cmpR a b) := by
            have h1 : sgT s t = cmpR a b := by rw [e1, f1]; exact (sgT_bs _ _).trans (cmp_encL a b Ga Gb)
            rw [← h1]
            unfold lecternlaw07_sign.f sgT
            split
            · rfl
            · split <;> rfl
          have HG := Lib.hid (fun W => lecternlaw07_sign.calls s t _ W hsgn)
          have hes : eqKs a a = true := by unfold eqKs; simp [cmpR_self]
          have HE1 := Lib.hid (fun A' W h1 h2 => lecternkit_Keys.calls (a.length + 1) A' a.length a A ca a true W h1 (Nat.le_refl _) h2 hca ((keysEq_f a a hla).trans (by rw [hes])))
          have HE2 := Lib.hid (fun W h1 h2 => lecternkit_Keys.calls (a.length + 1) A ca a B cb b (eqKs a b) W h1 hca h2 hcb (keysEq_f a b hla))
          have HRR := Lib.hid (fun W h1 h2 => rows_any a b A B ca cb W h1 h2 hca hcb)
          have hbeg : a.length = b.length → s.size ≤ t.size → ((t.extract 0 s.size).toList == s.toList) = eqKs a b := by
            intro hl h
            have e3 : eqKs a b = (cmpR a b == 0) := by unfold eqKs; simp [hl]
            have hb0 := begins_iff a b Ga Gb hl
            rw [e3, e1, f1]
            show (((bs (encL b)).extract 0 (bs (encL a)).size).toList == (bs (encL a)).toList) = _
            rw [bs_size, bs_extract, List.drop_zero, ByteArray.toList_eq, ByteArray.toList_eq, bs_data, bs_data, Bool.eq_iff_iff, beq_iff_eq, beq_iff_eq, ← hb0, List.prefix_iff_eq_take]
            exact eq_comm
          have hbeg2 : a.length = b.length → ¬ s.size ≤ t.size → eqKs a b = false := by
            intro hl h
            have e3 : eqKs a b = (cmpR a b == 0) := by unfold eqKs; simp [hl]
            have hb0 := begins_iff a b Ga Gb hl
            rw [e3, beq_eq_false_iff_ne]
            intro h0
            have hp := (hb0.2 h0).length_le
            rw [e1, f1] at h
            exact h (by show (bs (encL a)).size ≤ (bs (encL b)).size; rw [bs_size, bs_size]; exact hp)
          have HBG := Lib.hid hbeg
          have HBG2 := Lib.hid hbeg2
          have e1' : bs (encL a) = s := e1.symm
          rw [e1'] at HK
          generalize eqKs a b = q at *
          generalize cmpR a b = c at *
          clear hbeg hbeg2 hsgn hes e1 e1' f1 Ga Gb hra hrb HS HT ga gb
          go_wp2_with fail
          refine (HK.out _).mono ?_
          rintro e w4 ⟨⟨A', rfl, hC⟩, b4⟩
          have B4 := Lib.hid (below_next hbl.out (Nat.le_refl _) b4)
          have HC := Lib.hid hC
          clear b4 hC
          go_wp2_with fail
          refine (HE1.out _ _ HC.out (Kd.C_below HA.out B4.out)).mono ?_
          rintro e w5 ⟨rfl, d5⟩
          have B5 := Lib.hid (below_next B4.out (Nat.le_refl _) d5.below)
          clear d5
          go_wp2_with fail
          refine (HG.out _).mono ?_
          rintro e w6 ⟨rfl, d6⟩
          have B6 := Lib.hid (below_next B5.out (Nat.le_refl _) d6.below)
          clear d6
          go_wp2_with fail
          refine (HRR.out _ (Kd.C_below HA.out B6.out) (Kd.C_below HB.out B6.out)).mono ?_
          rintro e w7 ⟨rfl, b7⟩
          have B7 := Lib.hid (below_next B6.out (Nat.le_refl _) b7)
          clear b7
          have AW : ∀ W, Below w.heap.size w W → Calls Tryd.prog 22 #[] W fun e w' => e = .returned (.bool true) ∧ Below w.heap.size w w' := fun W hW => (HW.out W (HL.out.below hW)).mono fun _ _ ⟨he, hb⟩ => ⟨he, below_next hW (Nat.le_refl _) hb⟩
          have HAW := Lib.hid AW
          clear AW
          by_cases hl : a.length = b.length
          · have hl' : ((a.length : Int) != (b.length : Int)) = false := by rw [bne_eq_false_iff_eq]; omega
            have HLL := Lib.hid hl
            clear hl
            by_cases hs : s.size ≤ t.size
            · have hs' : (s.size : Int) ≤ t.size := by omega
              have HQ := Lib.hid (HBG.out HLL.out hs)
              go_wp2_with fail
              rw [HQ.out]
              refine (HE2.out _ (Kd.C_below HA.out B7.out) (Kd.C_below HB.out B7.out)).mono ?_
              rintro e w8 ⟨rfl, d8⟩
              have B8 := Lib.hid (below_next B7.out (Nat.le_refl _) d8.below)
              clear d8
              go_wp2_with fail
              all_goals
                refine (HAW.out _ B8.out).mono ?_
                rintro e w9 ⟨rfl, b9⟩
                go_wp2_with fail
                go_ret
                exact ⟨rfl, b9⟩
            · have hs' : ¬ (s.size : Int) ≤ t.size := by omega
              obtain rfl := HBG2.out HLL.out hs
              go_wp2_with fail
              refine (HE2.out _ (Kd.C_below HA.out B7.out) (Kd.C_below HB.out B7.out)).mono ?_
              rintro e w8 ⟨rfl, d8⟩
              have B8 := Lib.hid (below_next B7.out (Nat.le_refl _) d8.below)
              clear d8
              go_wp2_with fail
              all_goals
                refine (HAW.out _ B8.out).mono ?_
                rintro e w9 ⟨rfl, b9⟩
                go_wp2_with fail
                go_ret
                exact ⟨rfl, b9⟩
          · have hl' : ((a.length : Int) != (b.length : Int)) = true := by rw [bne_iff_ne]; omega
            clear hl
            go_wp2_with fail
            all_goals
              refine (HAW.out _ B7.out).mono ?_
              rintro e w9 ⟨rfl, b9⟩
              go_wp2_with fail
              go_ret
              exact ⟨rfl, b9⟩
end Go.Proofs.YtfmholpbpghojaaDoor
