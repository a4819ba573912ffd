import Derived.Test.YtfmholpbpghojaaDoorSchG
import Derived.Test.YtfmholpbpghojaaDoorSchW
/-! The reference's Check of a schema. -/
namespace Go.Proofs.YtfmholpbpghojaaDoor
set_option linter.unusedVariables false
set_option linter.unusedSimpArgs false
open Go.RowKit Go.Lib
open Go.Proofs.YtfmholpbpghojaaDoor.RSchemaChecks
open Go.Proofs.YtfmholpbpghojaaDoorW.PrintWords

theorem findI_miss (name : ByteArray) : ∀ (fs : List S66) (i : Nat) (j : Nat), j < fs.length → (findI name fs i = -1 ∨ (i : Int) + j < findI name fs i) → ((rd_T66 fs (j : Int)).f0.toList == name.toList) = false
  | x :: r, i, 0, _, h => by
    rw [findI_cons] at h
    show (x.f0.toList == name.toList) = false
    by_cases e : (x.f0.toList == name.toList) = true
    · rw [if_pos e] at h
      omega
    · simpa using e
  | x :: r, i, j + 1, hj, h => by
    have hr : rd_T66 (x :: r) ((j + 1 : Nat) : Int) = rd_T66 r (j : Int) := by simp [rd_T66]
    rw [hr]
    refine findI_miss name r (i + 1) j (by simpa using hj) ?_
    rw [findI_cons] at h
    by_cases e : (x.f0.toList == name.toList) = true
    · rw [if_pos e] at h
      omega
    · rw [if_neg e] at h
      omega
theorem findI_hit (name : ByteArray) : ∀ (fs : List S66) (i : Nat), 0 ≤ findI name fs i → ((rd_T66 fs (findI name fs i - i)).f0.toList == name.toList) = true
  | [], i, h => by simp [findI] at h
  | x :: r, i, h => by
    have hb := findI_lt name r (i + 1)
    rw [findI_cons] at h ⊢
    by_cases e : (x.f0.toList == name.toList) = true
    · rw [if_pos e]
      have : rd_T66 (x :: r) ((i : Int) - i) = x := by simp [rd_T66]
      rw [this]
      exact e
    · rw [if_neg e] at h ⊢
      have ih := findI_hit name r (i + 1) h
      have hr : rd_T66 (x :: r) (findI name r (i + 1) - i) = rd_T66 r (findI name r (i + 1) - ((i + 1 : Nat) : Int)) := by
        obtain ⟨q, hq⟩ : ∃ q : Nat, findI name r (i + 1) = ((i + 1 + q : Nat) : Int) := ⟨(findI name r (i + 1) - (i + 1 : Nat)).toNat, by omega⟩
        rw [hq]
        have e1 : (((i + 1 + q : Nat) : Int) - (i : Int)).toNat = q + 1 := by omega
        have e2 : (((i + 1 + q : Nat) : Int) - ((i + 1 : Nat) : Int)).toNat = q := by omega
        unfold rd_T66
        rw [e1, e2]
        simp
      rw [hr]
      exact ih
/-- The first place of a field's own name. -/
theorem findI_own (fs : List S66) (i : Nat) (hi : i < fs.length) : 0 ≤ findI (rd_T66 fs (i : Int)).f0 fs 0 ∧ findI (rd_T66 fs (i : Int)).f0 fs 0 ≤ i := by
  have hl := findI_lt (rd_T66 fs (i : Int)).f0 fs 0
  by_cases h : findI (rd_T66 fs (i : Int)).f0 fs 0 = -1 ∨ (i : Int) < findI (rd_T66 fs (i : Int)).f0 fs 0
  · have := findI_miss (rd_T66 fs (i : Int)).f0 fs 0 i hi (by omega)
    simp at this
  · omega
set_option maxHeartbeats 4000000 in
set_option maxRecDepth 100000 in
theorem rCheck_any (l : List S66) (A : Option Addr) (c : Nat) (w : World) (hl : Kd.C k66 w A l.length l) (hs : ∀ x ∈ l, x.f0.size < 2 ^ 60 ∧ x.f2.length < 2 ^ 59) :
    Calls Tryd.prog 13 #[.agg #[.slice A l.length c]] w fun e w' => e = .returned (.int .i64 (if schemaB l = true then 0 else 80)) ∧ Below w.heap.size w w' := by
  have HL := Lib.hid hl
  have HS := Lib.hid hs
  clear hl hs
  by_cases h1 : (l.length : Int) = 0
  · have e0 : schemaB l = false := by unfold schemaB; rw [decide_eq_false (show ¬ 1 ≤ (l.length : Int) by omega)]; rfl
    rw [e0]
    clear e0
    go_enter Tryd.func13, Tryd.ntmps13
    go_wp2_with fail
    go_ret
    exact ⟨rfl, (Below.refl _ w).alloc (Nat.le_refl _) _⟩
  have hq1 : ((l.length : Int) == 0) = false := by simpa using h1
  clear h1
  have h1 : 0 < l.length := by have := hq1; simp at this; exact List.length_pos_iff.2 this
  by_cases h2 : (l.length : Int) > 16
  · have e0 : schemaB l = false := by unfold schemaB; rw [decide_eq_false (show ¬ (l.length : Int) ≤ 16 by omega), Bool.and_false]; rfl
    rw [e0]
    clear e0
    go_enter Tryd.func13, Tryd.ntmps13
    go_wp2_with fail
    go_ret
    exact ⟨rfl, (Below.refl _ w).alloc (Nat.le_refl _) _⟩
  have e0 : schemaB l = fieldsB l 0 l := by unfold schemaB; rw [decide_eq_true (show 1 ≤ (l.length : Int) by omega), decide_eq_true (show (l.length : Int) ≤ 16 by omega)]; rfl
  rw [e0]
  clear e0
  obtain ⟨R, hR⟩ : ∃ R, R = fieldsB l 0 l := ⟨_, rfl⟩
  have HR := Lib.hid (show fieldsB l 0 (l.drop 0) = R from hR.symm)
  rw [← hR]
  clear hR
  go_enter Tryd.func13, Tryd.ntmps13
  go_wp2_with fail
  obtain ⟨W0, hW0⟩ : ∃ W0, W0 = w.alloc (Obj.cells #[Value.slice A l.length c] 24) := ⟨_, rfl⟩
  have hb0 : Below w.heap.size w W0 := by subst hW0; exact (Below.refl _ w).alloc (Nat.le_refl _) _
  have hs0 : W0.heap[w.heap.size]? = some (.cells #[.slice A l.length c] 24 (0, 0)) := by subst hW0; exact blk_new _ _
  rw [← hW0]
  clear hW0
  have hsz0 := blk_lt hs0
  have HS0 := Lib.hid hs0
  have HB0 := Lib.hid hb0
  clear hs0 hb0
  go_loopg [3] l.length (fun kq v3 w' => ∃ i : Nat, v3 = .int .i64 (i : Int) ∧ Hid (i + kq = l.length) ∧ Hid (fieldsB l i (l.drop i) = R) ∧ Hid (Below W0.heap.size W0 w'))
  case atStart => exact ⟨0, rfl, by show _ = _; omega, HR, Below.refl _ _⟩
  case round =>
    obtain ⟨i, rfl, hi, hr, hbl⟩ := hrel
    obtain ⟨wo, rfl⟩ : ∃ wo : World, wo = wr := ⟨_, rfl⟩
    have hi1 := hi.out
    have hni : (0 : Int) ≤ i := by omega
    have hbw : Below w.heap.size w wo := HB0.out.trans (hbl.out.mono HB0.out.size)
    have hsb := blk_below HS0.out hbl.out
    have hsc : wo.cell? ⟨w.heap.size, 0, none⟩ = some (.slice A l.length c) := (blk_cell hsb 0).trans rfl
    have hsl : w.heap.size < wo.heap.size := blk_lt hsb
    have HSB := Lib.hid hsb
    have HBW := Lib.hid hbw
    clear hsb
    cases gk with
    | zero =>
      have hi2 : i = l.length := by omega
      subst hi2
      have e0 := hr.out
      rw [List.drop_eq_nil_of_le (Nat.le_refl _)] at e0
      have e1 : R = true := e0.symm
      subst e1
      go_wp2_with fail
      go_ret
      exact ⟨rfl, HBW.out⟩
    | succ k =>
      have hia : i < l.length := by omega
      have hia' : (i : Int) < l.length := by omega
      obtain ⟨ad, A2, c2, eA, hx0, hx1, hx2, hx3, hx4, hx5, hx6, hl2, hi2⟩ := at_T66 HL.out i hni hia'
      subst eA
      rw [Int.toNat_natCast] at hx0 hx1 hx2 hx3 hx4 hx5 hx6
      have hadl : (ad.add (i * 7)).block < wo.heap.size := Nat.lt_of_lt_of_le (World.block_lt_of_cell? w _ hx0) hbw.size
      replace hx0 := (hbw.cell (World.block_lt_of_cell? w _ hx0)).trans hx0
      replace hx1 := (hbw.cell (World.block_lt_of_cell? w _ hx1)).trans hx1
      replace hx2 := (hbw.cell (World.block_lt_of_cell? w _ hx2)).trans hx2
      replace hx3 := (hbw.cell (World.block_lt_of_cell? w _ hx3)).trans hx3
      replace hx4 := (hbw.cell (World.block_lt_of_cell? w _ hx4)).trans hx4
      replace hx5 := (hbw.cell (World.block_lt_of_cell? w _ hx5)).trans hx5
      replace hx6 := (hbw.cell (World.block_lt_of_cell? w _ hx6)).trans hx6
      clear hbw
      have HI := Lib.hid (Kd.C_below hi2 HBW.out)
      have e0 := hr.out
      rw [rd_dropF l i hia] at e0
      have hmem : rd_T66 l i ∈ l := by simp [rd_T66, hia]
      have hsx := HS.out _ hmem
      unfold fieldsB at e0
      have hown := findI_own l i hia
      have HMISS := Lib.hid (fun j h1 h2 => findI_miss (rd_T66 l (i : Int)).f0 l 0 j h1 h2)
      have HHIT := Lib.hid (findI_hit (rd_T66 l (i : Int)).f0 l 0)
      generalize rd_T66 l (i : Int) = x at *
      obtain ⟨kn, hkn⟩ := rname_f x.f0 hsx.1
      obtain ⟨kc, hkc⟩ := rchain_f x.f2 hsx.2
      have HN := Lib.hid (fun W => lecternref08_Name.calls kn x.f0 (nameB x.f0) W hkn)
      have HC := Lib.hid (fun W h => lecternref06_Check.calls kc A2 c2 x.f2 _ W h hl2 hkc)
      have HWR := Lib.hid (HBW.out.alloc HBW.out.size (Obj.cells #[.string x.f0, .int .i64 x.f1, .slice A2 x.f2.length c2, .int .i64 x.f3, .int .i64 x.f4, .bool x.f5, .bool x.f6] 66))
      have HWL := Lib.hid (hbl.out.alloc hbl.out.size (Obj.cells #[.string x.f0, .int .i64 x.f1, .slice A2 x.f2.length c2, .int .i64 x.f3, .int .i64 x.f4, .bool x.f5, .bool x.f6] 66))
      have HI1 := Lib.hid (Kd.C_alloc HI.out (Obj.cells #[.string x.f0, .int .i64 x.f1, .slice A2 x.f2.length c2, .int .i64 x.f3, .int .i64 x.f4, .bool x.f5, .bool x.f6] 66))
      have HBX := Lib.hid (blk_new wo (.cells #[.string x.f0, .int .i64 x.f1, .slice A2 x.f2.length c2, .int .i64 x.f3, .int .i64 x.f4, .bool x.f5, .bool x.f6] 66))
      have HE := Lib.hid e0
      clear hl2 hi2 hsx hmem hkn hkc e0
      go_wp2_with fail
      refine (HN.out _).mono ?_
      rintro e w1 ⟨rfl, d1⟩
      have hbx := blk_below HBX.out d1.below
      have hy0 : w1.cell? ⟨wo.heap.size, 0, none⟩ = some (.string x.f0) := (blk_cell hbx 0).trans rfl
      have hbxl : wo.heap.size < w1.heap.size := blk_lt hbx
      have hsb1 := blk_below (blk_alloc HSB.out (Obj.cells #[.string x.f0, .int .i64 x.f1, .slice A2 x.f2.length c2, .int .i64 x.f3, .int .i64 x.f4, .bool x.f5, .bool x.f6] 66)) d1.below
      have hsc1 : w1.cell? ⟨w.heap.size, 0, none⟩ = some (.slice (some ad) l.length c) := (blk_cell hsb1 0).trans rfl
      have HB1 := Lib.hid (bnext HWR.out d1.below)
      have HBl1 := Lib.hid (bnext HWL.out d1.below)
      have HI2 := Lib.hid (Kd.C_below HI1.out d1.below)
      have HBX1 := Lib.hid hbx
      have HSB1 := Lib.hid hsb1
      clear d1 hbx hsb1 hx0 hx1 hx2 hx3 hx4 hx5 hx6
      cases hnb : nameB x.f0 with
      | false =>
        have e1 : R = false := by rw [← HE.out]; simp [mayB, hnb]
        subst e1
        go_wp2_with fail
        go_ret
        exact ⟨rfl, HB1.out⟩
      | true =>
        have HNB := Lib.hid hnb
        clear hnb
        obtain ⟨qn, hqn⟩ : ∃ qn : Nat, findI x.f0 l 0 = (qn : Int) := ⟨(findI x.f0 l 0).toNat, by omega⟩
        rw [hqn] at HE HMISS HHIT hown
        clear hqn
        have HQN := Lib.hid hown
        by_cases hqi : qn < i
        · have e1 : R = false := by rw [← HE.out, show (mx 0 (qn : Int) == (i : Int)) = false from beq_eq_false_iff_ne.2 (by unfold mx; split <;> omega)]; rfl
          subst e1
          clear hown
          go_wp2_with fail
          go_loopg [5] (qn + 1) (fun kq v5 w' => ∃ j : Nat, v5 = .int .i64 (j : Int) ∧ Hid (j + kq = qn + 1 ∧ j ≤ qn) ∧ Hid (Below w1.heap.size w1 w'))
          case atStart => exact ⟨0, rfl, (by show _ ∧ _; omega), Below.refl _ _⟩
          case round =>
            obtain ⟨j, rfl, hj, hbj⟩ := hrel
            have hj1 := hj.out
            have hj2 : (j : Int) < i := by omega
            have hj3 : (j : Int) < l.length := by omega
            have hj0 : (0 : Int) ≤ j := by omega
            obtain ⟨ad', _, _, eA, hz0, -⟩ := at_T66 HL.out j hj0 hj3
            obtain rfl : ad = ad' := Option.some.inj eA
            rw [Int.toNat_natCast] at hz0
            have hbr : Below w.heap.size w wr := HB1.out.trans (hbj.out.mono HB1.out.size)
            replace hz0 := (hbr.cell (World.block_lt_of_cell? w _ hz0)).trans hz0
            have hyr : wr.cell? ⟨wo.heap.size, 0, none⟩ = some (.string x.f0) := (hbj.out.cell (p := ⟨wo.heap.size, 0, none⟩) hbxl).trans hy0
            have hscr : wr.cell? ⟨w.heap.size, 0, none⟩ = some (.slice (some ad) l.length c) := (hbj.out.cell (World.block_lt_of_cell? w1 _ hsc1)).trans hsc1
            have hwl : w.heap.size < wr.heap.size := World.block_lt_of_cell? wr ⟨w.heap.size, 0, none⟩ hscr
            have hol : wo.heap.size < wr.heap.size := World.block_lt_of_cell? wr ⟨wo.heap.size, 0, none⟩ hyr
            have hjl : (ad.add (j * 7)).block < wr.heap.size := World.block_lt_of_cell? wr _ hz0
            have HBR := Lib.hid hbr
            clear hbr eA
            cases gk with
            | zero => omega
            | succ g =>
              by_cases hjq : j = qn
              · have ht := HHIT.out (by omega)
                rw [show (qn : Int) - ((0 : Nat) : Int) = (qn : Int) by omega] at ht
                subst hjq
                generalize rd_T66 l (j : Int) = y at *
                go_wp2_with fail
                go_quiet (fail)
                go_wp2_with fail
                go_ret
                exact ⟨rfl, pw_below_drewN HBR.out _⟩
              · have ht := HMISS.out j (by omega) (.inr (by omega))
                generalize rd_T66 l (j : Int) = y at *
                go_wp2_with fail
                go_quiet (fail)
                go_wp2_with fail
                go_roundg g
                case measure => omega
                case rel => exact ⟨j + 1, by go_num, (by show _ ∧ _; omega), pw_below_drewN hbj.out _⟩
        · have hqi2 := Lib.hid (show qn = i by omega)
          clear hqi
          have e1 := HE.out
          rw [show (mx 0 (qn : Int) == (i : Int)) = true by rw [hqi2.out]; unfold mx; simp; omega, Bool.true_and] at e1
          have HE1 := Lib.hid e1
          clear e1 HE HHIT hown
          go_wp2_with fail
          go_loopg [5] i (fun kq v5 w' => ∃ j : Nat, v5 = .int .i64 (j : Int) ∧ Hid (j + kq = i) ∧ Hid (Below w1.heap.size w1 w'))
          case atStart => exact ⟨0, rfl, (by show _ = _; omega), Below.refl _ _⟩
          case round =>
            obtain ⟨j, rfl, hj, hbj⟩ := hrel
            have hj1 := hj.out
            cases gk with
            | succ g =>
              have hj2 : (j : Int) < i := by omega
              have hj3 : (j : Int) < l.length := by omega
              have hj0 : (0 : Int) ≤ j := by omega
              obtain ⟨ad', _, _, eA, hz0, -⟩ := at_T66 HL.out j hj0 hj3
              obtain rfl : ad = ad' := Option.some.inj eA
              rw [Int.toNat_natCast] at hz0
              have hbr : Below w.heap.size w wr := HB1.out.trans (hbj.out.mono HB1.out.size)
              replace hz0 := (hbr.cell (World.block_lt_of_cell? w _ hz0)).trans hz0
              have hyr : wr.cell? ⟨wo.heap.size, 0, none⟩ = some (.string x.f0) := (hbj.out.cell (p := ⟨wo.heap.size, 0, none⟩) hbxl).trans hy0
              have hscr : wr.cell? ⟨w.heap.size, 0, none⟩ = some (.slice (some ad) l.length c) := (hbj.out.cell (World.block_lt_of_cell? w1 _ hsc1)).trans hsc1
              have hwl : w.heap.size < wr.heap.size := World.block_lt_of_cell? wr ⟨w.heap.size, 0, none⟩ hscr
              have hol : wo.heap.size < wr.heap.size := World.block_lt_of_cell? wr ⟨wo.heap.size, 0, none⟩ hyr
              have hjl : (ad.add (j * 7)).block < wr.heap.size := World.block_lt_of_cell? wr _ hz0
              have HBR := Lib.hid hbr
              clear hbr eA
              have ht := HMISS.out j (by omega) (.inr (by have := hqi2.out; omega))
              generalize rd_T66 l (j : Int) = y at *
              go_wp2_with fail
              go_quiet (fail)
              go_wp2_with fail
              go_roundg g
              case measure => omega
              case rel => exact ⟨j + 1, by go_num, (by show _ = _; omega), pw_below_drewN hbj.out _⟩
            | zero =>
              have hji : j = i := by omega
              subst hji
              have hbxr := blk_below HBX1.out hbj.out
              have z1 : wr.cell? ⟨wo.heap.size, 1, none⟩ = some (.int .i64 x.f1) := (blk_cell hbxr 1).trans rfl
              have z2 : wr.cell? ⟨wo.heap.size, 2, none⟩ = some (.slice A2 x.f2.length c2) := (blk_cell hbxr 2).trans rfl
              have z3 : wr.cell? ⟨wo.heap.size, 3, none⟩ = some (.int .i64 x.f3) := (blk_cell hbxr 3).trans rfl
              have z4 : wr.cell? ⟨wo.heap.size, 4, none⟩ = some (.int .i64 x.f4) := (blk_cell hbxr 4).trans rfl
              have hbxl2 : wo.heap.size < wr.heap.size := blk_lt hbxr
              have hsbr := blk_below HSB1.out hbj.out
              have hscr : wr.cell? ⟨w.heap.size, 0, none⟩ = some (.slice (some ad) l.length c) := (blk_cell hsbr 0).trans rfl
              have hscl : w.heap.size < wr.heap.size := blk_lt hsbr
              have HBR : Hid (Below w.heap.size w wr) := Lib.hid (HB1.out.trans (hbj.out.mono HB1.out.size))
              have HBLR : Hid (Below W0.heap.size W0 wr) := Lib.hid (bnext HBl1.out hbj.out)
              have HIR := Lib.hid (Kd.C_below HI2.out hbj.out)
              have e2 := HE1.out
              unfold mayB at e2
              rw [HNB.out, Bool.true_and] at e2
              generalize chainB x.f2 = cb at *
              obtain ⟨f0, f1, f2, f3, f4, f5, f6⟩ := x
              dsimp only at *
              generalize f2.length = n at *
              obtain ⟨T, hT⟩ : ∃ T, T = fieldsB l (j + 1) (l.drop (j + 1)) := ⟨_, rfl⟩
              rw [← hT] at e2
              have HT := Lib.hid hT
              clear hT hbxr hsbr hy0 hsc hsc1 hsl hbxl HE1 HR hbl HBX HBX1 HSB HSB1 HI HI1 HI2 HWR HWL HB1 HBl1 HN HMISS
              by_cases g1 : f1 = 1
              · subst g1
                rw [if_pos rfl] at e2
                cases cb with
                | false =>
                  have e3 : R = false := e2.symm
                  subst e3
                  go_wp2_with (go_at_call 41; refine (HC.out _ HIR.out).mono ?_; rintro e w2 ⟨rfl, d2⟩; have HBR2 := Lib.hid (bnext HBR.out d2.below); have HBLR2 := Lib.hid (bnext HBLR.out d2.below); have y2 := (d2.below.cell (p := ⟨wo.heap.size, 2, none⟩) hbxl2).trans z2; have y3 := (d2.below.cell (p := ⟨wo.heap.size, 3, none⟩) hbxl2).trans z3; have y4 := (d2.below.cell (p := ⟨wo.heap.size, 4, none⟩) hbxl2).trans z4; have hbxl3 := Nat.lt_of_lt_of_le hbxl2 d2.below.size; clear d2)
                  go_ret
                  exact ⟨rfl, HBR2.out⟩
                | true =>
                  rw [Bool.true_and] at e2
                  obtain ⟨B, hB⟩ : ∃ B, B = (decide (f3 = 0) && decide (f4 = 0)) := ⟨_, rfl⟩
                  rw [← hB] at e2
                  have HBF := Lib.hid hB
                  clear hB
                  cases B with
                  | false =>
                    have e3 : R = false := e2.symm
                    subst e3
                    clear e2
                    go_wp2_with (go_at_call 41; refine (HC.out _ HIR.out).mono ?_; rintro e w2 ⟨rfl, d2⟩; have HBR2 := Lib.hid (bnext HBR.out d2.below); have HBLR2 := Lib.hid (bnext HBLR.out d2.below); have y2 := (d2.below.cell (p := ⟨wo.heap.size, 2, none⟩) hbxl2).trans z2; have y3 := (d2.below.cell (p := ⟨wo.heap.size, 3, none⟩) hbxl2).trans z3; have y4 := (d2.below.cell (p := ⟨wo.heap.size, 4, none⟩) hbxl2).trans z4; have hbxl3 := Nat.lt_of_lt_of_le hbxl2 d2.below.size; clear d2)
                    all_goals first | (go_ret; exact ⟨rfl, HBR2.out⟩) | (go_roundg k; (case measure => omega); (case rel => exact ⟨j + 1, by go_num, by show j + 1 + k = l.length; omega, HE2, HBLR2⟩)) | (exfalso; have h := HBF.out; simp only [Bool.and_eq_false_iff, Bool.and_eq_true, decide_eq_true_eq, decide_eq_false_iff_not, eq_comm (a := false), eq_comm (a := true)] at h; (try simp only [bne_iff_ne, ne_eq, bne_eq_false_iff_eq] at *); omega)
                  | true =>
                    have HE2 := Lib.hid (show fieldsB l (j + 1) (l.drop (j + 1)) = R by rw [← HT.out]; exact e2)
                    clear e2
                    go_wp2_with (go_at_call 41; refine (HC.out _ HIR.out).mono ?_; rintro e w2 ⟨rfl, d2⟩; have HBR2 := Lib.hid (bnext HBR.out d2.below); have HBLR2 := Lib.hid (bnext HBLR.out d2.below); have y2 := (d2.below.cell (p := ⟨wo.heap.size, 2, none⟩) hbxl2).trans z2; have y3 := (d2.below.cell (p := ⟨wo.heap.size, 3, none⟩) hbxl2).trans z3; have y4 := (d2.below.cell (p := ⟨wo.heap.size, 4, none⟩) hbxl2).trans z4; have hbxl3 := Nat.lt_of_lt_of_le hbxl2 d2.below.size; clear d2)
                    all_goals first | (go_ret; exact ⟨rfl, HBR2.out⟩) | (go_roundg k; (case measure => omega); (case rel => exact ⟨j + 1, by go_num, by show j + 1 + k = l.length; omega, HE2, HBLR2⟩)) | (exfalso; have h := HBF.out; simp only [Bool.and_eq_false_iff, Bool.and_eq_true, decide_eq_true_eq, decide_eq_false_iff_not, eq_comm (a := false), eq_comm (a := true)] at h; (try simp only [bne_iff_ne, ne_eq, bne_eq_false_iff_eq] at *); omega)
              rw [if_neg g1] at e2
              by_cases g2 : f1 = 2
              · subst g2
                rw [if_pos rfl] at e2
                obtain ⟨B, hB⟩ : ∃ B, B = (decide (n = 0) && (decide (f3 = 0) && decide (f4 = 0))) := ⟨_, rfl⟩
                rw [← hB] at e2
                have HBF := Lib.hid hB
                clear hB
                cases B with
                | false =>
                  have e3 : R = false := e2.symm
                  subst e3
                  clear e2
                  go_wp2_with (fail)
                  all_goals first | (go_ret; exact ⟨rfl, HBR.out⟩) | (go_roundg k; (case measure => omega); (case rel => exact ⟨j + 1, by go_num, by show j + 1 + k = l.length; omega, HE2, HBLR⟩)) | (exfalso; have h := HBF.out; simp only [Bool.and_eq_false_iff, Bool.and_eq_true, decide_eq_true_eq, decide_eq_false_iff_not, eq_comm (a := false), eq_comm (a := true)] at h; (try simp only [bne_iff_ne, ne_eq, bne_eq_false_iff_eq] at *); omega)
                | true =>
                  have HE2 := Lib.hid (show fieldsB l (j + 1) (l.drop (j + 1)) = R by rw [← HT.out]; exact e2)
                  clear e2
                  go_wp2_with (fail)
                  all_goals first | (go_ret; exact ⟨rfl, HBR.out⟩) | (go_roundg k; (case measure => omega); (case rel => exact ⟨j + 1, by go_num, by show j + 1 + k = l.length; omega, HE2, HBLR⟩)) | (exfalso; have h := HBF.out; simp only [Bool.and_eq_false_iff, Bool.and_eq_true, decide_eq_true_eq, decide_eq_false_iff_not, eq_comm (a := false), eq_comm (a := true)] at h; (try simp only [bne_iff_ne, ne_eq, bne_eq_false_iff_eq] at *); omega)
              rw [if_neg g2] at e2
              by_cases g3 : f1 = 3
              · subst g3
                rw [if_pos rfl] at e2
                obtain ⟨B, hB⟩ : ∃ B, B = (decide (n = 0) && (decide (f3 = 0) && decide (f4 = 0))) := ⟨_, rfl⟩
                rw [← hB] at e2
                have HBF := Lib.hid hB
                clear hB
                cases B with
                | false =>
                  have e3 : R = false := e2.symm
                  subst e3
                  clear e2
                  go_wp2_with (fail)
                  all_goals first | (go_ret; exact ⟨rfl, HBR.out⟩) | (go_roundg k; (case measure => omega); (case rel => exact ⟨j + 1, by go_num, by show j + 1 + k = l.length; omega, HE2, HBLR⟩)) | (exfalso; have h := HBF.out; simp only [Bool.and_eq_false_iff, Bool.and_eq_true, decide_eq_true_eq, decide_eq_false_iff_not, eq_comm (a := false), eq_comm (a := true)] at h; (try simp only [bne_iff_ne, ne_eq, bne_eq_false_iff_eq] at *); omega)
                | true =>
                  have HE2 := Lib.hid (show fieldsB l (j + 1) (l.drop (j + 1)) = R by rw [← HT.out]; exact e2)
                  clear e2
                  go_wp2_with (fail)
                  all_goals first | (go_ret; exact ⟨rfl, HBR.out⟩) | (go_roundg k; (case measure => omega); (case rel => exact ⟨j + 1, by go_num, by show j + 1 + k = l.length; omega, HE2, HBLR⟩)) | (exfalso; have h := HBF.out; simp only [Bool.and_eq_false_iff, Bool.and_eq_true, decide_eq_true_eq, decide_eq_false_iff_not, eq_comm (a := false), eq_comm (a := true)] at h; (try simp only [bne_iff_ne, ne_eq, bne_eq_false_iff_eq] at *); omega)
              rw [if_neg g3] at e2
              by_cases g4 : f1 = 4
              · subst g4
                rw [if_pos rfl] at e2
                obtain ⟨B, hB⟩ : ∃ B, B = (decide (n = 0) && (decide (f4 = 0) && (decide (0 ≤ f3) && decide (f3 ≤ 9)))) := ⟨_, rfl⟩
                rw [← hB] at e2
                have HBF := Lib.hid hB
                clear hB
                cases B with
                | false =>
                  have e3 : R = false := e2.symm
                  subst e3
                  clear e2
                  go_wp2_with (fail)
                  all_goals first | (go_ret; exact ⟨rfl, HBR.out⟩) | (go_roundg k; (case measure => omega); (case rel => exact ⟨j + 1, by go_num, by show j + 1 + k = l.length; omega, HE2, HBLR⟩)) | (exfalso; have h := HBF.out; simp only [Bool.and_eq_false_iff, Bool.and_eq_true, decide_eq_true_eq, decide_eq_false_iff_not, eq_comm (a := false), eq_comm (a := true)] at h; (try simp only [bne_iff_ne, ne_eq, bne_eq_false_iff_eq] at *); omega)
                | true =>
                  have HE2 := Lib.hid (show fieldsB l (j + 1) (l.drop (j + 1)) = R by rw [← HT.out]; exact e2)
                  clear e2
                  go_wp2_with (fail)
                  all_goals first | (go_ret; exact ⟨rfl, HBR.out⟩) | (go_roundg k; (case measure => omega); (case rel => exact ⟨j + 1, by go_num, by show j + 1 + k = l.length; omega, HE2, HBLR⟩)) | (exfalso; have h := HBF.out; simp only [Bool.and_eq_false_iff, Bool.and_eq_true, decide_eq_true_eq, decide_eq_false_iff_not, eq_comm (a := false), eq_comm (a := true)] at h; (try simp only [bne_iff_ne, ne_eq, bne_eq_false_iff_eq] at *); omega)
              rw [if_neg g4] at e2
              by_cases g5 : f1 = 5
              · subst g5
                rw [if_pos rfl] at e2
                obtain ⟨B, hB⟩ : ∃ B, B = (decide (n = 0) && (decide (f3 = 0) && (decide (1 ≤ f4) && decide (f4 ≤ 4)))) := ⟨_, rfl⟩
                rw [← hB] at e2
                have HBF := Lib.hid hB
                clear hB
                cases B with
                | false =>
                  have e3 : R = false := e2.symm
                  subst e3
                  clear e2
                  go_wp2_with (fail)
                  all_goals first | (go_ret; exact ⟨rfl, HBR.out⟩) | (go_roundg k; (case measure => omega); (case rel => exact ⟨j + 1, by go_num, by show j + 1 + k = l.length; omega, HE2, HBLR⟩)) | (exfalso; have h := HBF.out; simp only [Bool.and_eq_false_iff, Bool.and_eq_true, decide_eq_true_eq, decide_eq_false_iff_not, eq_comm (a := false), eq_comm (a := true)] at h; (try simp only [bne_iff_ne, ne_eq, bne_eq_false_iff_eq] at *); omega)
                | true =>
                  have HE2 := Lib.hid (show fieldsB l (j + 1) (l.drop (j + 1)) = R by rw [← HT.out]; exact e2)
                  clear e2
                  go_wp2_with (fail)
                  all_goals first | (go_ret; exact ⟨rfl, HBR.out⟩) | (go_roundg k; (case measure => omega); (case rel => exact ⟨j + 1, by go_num, by show j + 1 + k = l.length; omega, HE2, HBLR⟩)) | (exfalso; have h := HBF.out; simp only [Bool.and_eq_false_iff, Bool.and_eq_true, decide_eq_true_eq, decide_eq_false_iff_not, eq_comm (a := false), eq_comm (a := true)] at h; (try simp only [bne_iff_ne, ne_eq, bne_eq_false_iff_eq] at *); omega)
              rw [if_neg g5] at e2
              have e3 : R = false := by rw [← e2, Bool.and_false, Bool.false_and]
              subst e3
              go_wp2_with fail
              all_goals (go_ret; exact ⟨rfl, HBR.out⟩)
end Go.Proofs.YtfmholpbpghojaaDoor
