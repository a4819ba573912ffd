import Derived.Test.YtfmholpbpghojaaDoorSchM
/-! Schema: Check. -/
namespace Go.Proofs.YtfmholpbpghojaaDoor
set_option linter.unusedVariables false
set_option linter.unusedSimpArgs false
open Go.RowKit Go.Lib
open Go.Proofs.YtfmholpbpghojaaDoor.RSchemaChecks
open Go.Proofs.YtfmholpbpghojaaDoorW.PrintWords

/-- The fields from the i-th on: found at their own places, and such as may be. -/
def fieldsB (l : List S66) : Nat → List S66 → Bool
  | _, [] => true
  | i, x :: r => (mx 0 (findI x.f0 l 0) == (i : Int)) && (mayB x && fieldsB l (i + 1) r)
def schemaB (l : List S66) : Bool := (decide (1 ≤ (l.length : Int)) && decide ((l.length : Int) ≤ 16)) && fieldsB l 0 l
set_option maxHeartbeats 2000000 in
set_option maxRecDepth 100000 in
theorem sCheck_any (l : List S66) (A : Option Addr) (c : Nat) (w : World) (hl : Kd.C k66 w A l.length l) (hs : ∀ x ∈ l, x.f0.size ≤ 9223372036854775807) :
    Calls Tryd.prog 12 #[.agg #[.slice A l.length c]] w fun e w' => e = .returned (.int .i64 (if schemaB l = true then 0 else 80)) ∧ Below w.heap.size w w' := by
  have HL := Lib.hid hl
  have HS := Lib.hid hs
  clear hl hs
  by_cases h1 : 1 ≤ (l.length : Int)
  · by_cases h2 : (l.length : Int) ≤ 16
    · have e0 : schemaB l = fieldsB l 0 l := by unfold schemaB; rw [decide_eq_true h1, decide_eq_true h2]; rfl
      rw [e0]
      clear e0
      obtain ⟨R, hR⟩ : ∃ R, R = fieldsB l 0 l := ⟨_, rfl⟩
      have HR := Lib.hid (show fieldsB l 0 (l.drop 0) = R from hR.symm)
      rw [← hR]
      clear hR
      go_enter Tryd.func12, Tryd.ntmps12
      go_wp2_with fail
      obtain ⟨W0, hW0⟩ : ∃ W0, W0 = w.alloc (Obj.cells #[Value.slice A l.length c] 24) := ⟨_, rfl⟩
      have hb0 : Below w.heap.size w W0 := by subst hW0; exact (Below.refl _ w).alloc (Nat.le_refl _) _
      have hs0 : W0.heap[w.heap.size]? = some (.cells #[.slice A l.length c] 24 (0, 0)) := by subst hW0; exact blk_new _ _
      rw [← hW0]
      clear hW0
      have hsz0 := blk_lt hs0
      have HS0 := Lib.hid hs0
      have HB0 := Lib.hid hb0
      clear hs0 hb0
      go_loopg [20] l.length (fun kq v20 w' => ∃ i : Nat, v20 = .int .i64 (i : Int) ∧ Hid (i + kq = l.length) ∧ Hid (fieldsB l i (l.drop i) = R) ∧ Hid (Below W0.heap.size W0 w'))
      case atStart => exact ⟨0, rfl, by show _ = _; omega, HR, Below.refl _ _⟩
      case round =>
        obtain ⟨i, rfl, hi, hr, hbl⟩ := hrel
        have hi1 := hi.out
        have hni : (0 : Int) ≤ i := by omega
        have hbw : Below w.heap.size w wr := HB0.out.trans (hbl.out.mono HB0.out.size)
        have hsb := blk_below HS0.out hbl.out
        have hsc : wr.cell? ⟨w.heap.size, 0, none⟩ = some (.slice A l.length c) := (blk_cell hsb 0).trans rfl
        have hsl : w.heap.size < wr.heap.size := blk_lt hsb
        have HSB := Lib.hid hsb
        have HBW := Lib.hid hbw
        clear hsb
        cases gk with
        | zero =>
          have hi2 : i = l.length := by omega
          subst hi2
          have e0 := hr.out
          rw [List.drop_eq_nil_of_le (Nat.le_refl _)] at e0
          have e1 : R = true := e0.symm
          subst e1
          go_wp2_with fail
          go_ret
          exact ⟨rfl, HBW.out⟩
        | succ k =>
          have hia : i < l.length := by omega
          have hia' : (i : Int) < l.length := by omega
          obtain ⟨ad, A2, c2, eA, hx0, hx1, hx2, hx3, hx4, hx5, hx6, hl2, hi2⟩ := at_T66 HL.out i hni hia'
          subst eA
          rw [Int.toNat_natCast] at hx0 hx1 hx2 hx3 hx4 hx5 hx6
          have hadl : (ad.add (i * 7)).block < wr.heap.size := Nat.lt_of_lt_of_le (World.block_lt_of_cell? w _ hx0) hbw.size
          replace hx0 := (hbw.cell (World.block_lt_of_cell? w _ hx0)).trans hx0
          replace hx1 := (hbw.cell (World.block_lt_of_cell? w _ hx1)).trans hx1
          replace hx2 := (hbw.cell (World.block_lt_of_cell? w _ hx2)).trans hx2
          replace hx3 := (hbw.cell (World.block_lt_of_cell? w _ hx3)).trans hx3
          replace hx4 := (hbw.cell (World.block_lt_of_cell? w _ hx4)).trans hx4
          replace hx5 := (hbw.cell (World.block_lt_of_cell? w _ hx5)).trans hx5
          replace hx6 := (hbw.cell (World.block_lt_of_cell? w _ hx6)).trans hx6
          clear hbw
          have HI := Lib.hid (Kd.C_below hi2 HBW.out)
          have e0 := hr.out
          rw [rd_dropF l i hia] at e0
          have hmem : rd_T66 l i ∈ l := by simp [rd_T66, hia]
          have hsx := HS.out _ hmem
          unfold fieldsB at e0
          generalize rd_T66 l (i : Int) = x at *
          have HFD := Lib.hid (fun W h => find_any l (some ad) c x.f0 W h)
          have HMY := Lib.hid (fun W h => may_any x A2 c2 W h hl2 hsx)
          clear hl2 hi2 hsx hmem
          generalize mx 0 (findI x.f0 l 0) = fk at *
          generalize decide (0 ≤ findI x.f0 l 0) = fo at *
          have hwz : wr.heap.size < (wr.alloc (Obj.cells #[.string x.f0, .int .i64 x.f1, .slice A2 x.f2.length c2, .int .i64 x.f3, .int .i64 x.f4, .bool x.f5, .bool x.f6] 66)).heap.size := by rw [World.size_alloc]; omega
          have HB1 := Lib.hid (HBW.out.alloc HBW.out.size (Obj.cells #[.string x.f0, .int .i64 x.f1, .slice A2 x.f2.length c2, .int .i64 x.f3, .int .i64 x.f4, .bool x.f5, .bool x.f6] 66))
          have HBl1 := Lib.hid (hbl.out.alloc hbl.out.size (Obj.cells #[.string x.f0, .int .i64 x.f1, .slice A2 x.f2.length c2, .int .i64 x.f3, .int .i64 x.f4, .bool x.f5, .bool x.f6] 66))
          go_wp2_with fail
          refine (HFD.out _ (Kd.C_below HL.out HB1.out)).mono ?_
          rintro e w1 ⟨rfl, b1⟩
          have hbx := blk_below (blk_new wr (.cells #[.string x.f0, .int .i64 x.f1, .slice A2 x.f2.length c2, .int .i64 x.f3, .int .i64 x.f4, .bool x.f5, .bool x.f6] 66)) b1
          have hy0 : w1.cell? ⟨wr.heap.size, 0, none⟩ = some (.string x.f0) := (blk_cell hbx 0).trans rfl
          have hy1 : w1.cell? ⟨wr.heap.size, 1, none⟩ = some (.int .i64 x.f1) := (blk_cell hbx 1).trans rfl
          have hy2 : w1.cell? ⟨wr.heap.size, 2, none⟩ = some (.slice A2 x.f2.length c2) := (blk_cell hbx 2).trans rfl
          have hy3 : w1.cell? ⟨wr.heap.size, 3, none⟩ = some (.int .i64 x.f3) := (blk_cell hbx 3).trans rfl
          have hy4 : w1.cell? ⟨wr.heap.size, 4, none⟩ = some (.int .i64 x.f4) := (blk_cell hbx 4).trans rfl
          have hy5 : w1.cell? ⟨wr.heap.size, 5, none⟩ = some (.bool x.f5) := (blk_cell hbx 5).trans rfl
          have hy6 : w1.cell? ⟨wr.heap.size, 6, none⟩ = some (.bool x.f6) := (blk_cell hbx 6).trans rfl
          have HB2 := Lib.hid (bnext HB1.out b1)
          have HBl2 := Lib.hid (bnext HBl1.out b1)
          have HI2 := Lib.hid (Kd.C_below (Kd.C_alloc HI.out _) b1)
          clear b1 hbx
          by_cases hfk : fk = (i : Int)
          · rw [hfk, beq_self_eq_true, Bool.true_and] at e0
            have hne : (fk != (i : Int)) = false := by rw [bne_eq_false_iff_eq]; exact hfk
            clear hfk
            have HE := Lib.hid e0
            clear e0
            generalize mayB x = mb at *
            go_wp2_with fail
            refine (HMY.out _ HI2.out).mono ?_
            rintro e w2 ⟨rfl, b2⟩
            have HB3 := Lib.hid (bnext HB2.out b2)
            have HBl3 := Lib.hid (bnext HBl2.out b2)
            clear b2
            cases mb with
            | false =>
              have e1 : R = false := HE.out.symm
              subst e1
              go_wp2_with fail
              go_ret
              exact ⟨rfl, HB3.out⟩
            | true =>
              have HE2 := Lib.hid (show fieldsB l (i + 1) (l.drop (i + 1)) = R from HE.out)
              go_wp2_with fail
              go_roundg k
              case measure => omega
              case rel => exact ⟨i + 1, by go_num, by show i + 1 + k = l.length; omega, HE2, HBl3⟩
          · have hne : (fk != (i : Int)) = true := by rw [bne_iff_ne]; exact hfk
            rw [beq_eq_false_iff_ne.2 hfk, Bool.false_and] at e0
            have e1 : R = false := e0.symm
            subst e1
            clear hfk e0
            go_wp2_with fail
            go_ret
            exact ⟨rfl, HB2.out⟩
    · have e0 : schemaB l = false := by unfold schemaB; rw [decide_eq_false h2, Bool.and_false, Bool.false_and]
      rw [e0]
      clear e0
      go_enter Tryd.func12, Tryd.ntmps12
      go_wp2_with fail
      go_ret
      exact ⟨rfl, (Below.refl _ w).alloc (Nat.le_refl _) _⟩
  · have e0 : schemaB l = false := by unfold schemaB; rw [decide_eq_false h1, Bool.false_and, Bool.false_and]
    rw [e0]
    clear e0
    go_enter Tryd.func12, Tryd.ntmps12
    go_wp2_with fail
    go_ret
    exact ⟨rfl, (Below.refl _ w).alloc (Nat.le_refl _) _⟩
end Go.Proofs.YtfmholpbpghojaaDoor
