import Derived.Test.YtfmholpbpghojaaDoorSchK
/-! Schema: may, Check. -/
namespace Go.Proofs.YtfmholpbpghojaaDoor
set_option linter.unusedVariables false
set_option linter.unusedSimpArgs false
open Go.RowKit Go.Lib
open Go.Proofs.YtfmholpbpghojaaDoor.RSchemaChecks
open Go.Proofs.YtfmholpbpghojaaDoorW.PrintWords

def mayB (x : S66) : Bool :=
  nameB x.f0 && (if x.f1 = 1 then chainB x.f2 && (decide (x.f3 = 0) && decide (x.f4 = 0))
    else decide (x.f2.length = 0) && (if x.f1 = 2 then decide (x.f3 = 0) && decide (x.f4 = 0)
    else if x.f1 = 3 then decide (x.f3 = 0) && decide (x.f4 = 0)
    else if x.f1 = 4 then decide (x.f4 = 0) && (decide (0 ≤ x.f3) && decide (x.f3 ≤ 9))
    else if x.f1 = 5 then decide (x.f3 = 0) && (decide (1 ≤ x.f4) && decide (x.f4 ≤ 4))
    else false))
set_option maxHeartbeats 2000000 in
set_option maxRecDepth 100000 in
theorem may_any (x : S66) (A : Option Addr) (c : Nat) (w : World) (hl : Kd.C (Kd.int .i64) w A x.f2.length x.f2) (hc : x.f2.length ≤ c) (hs : x.f0.size ≤ 9223372036854775807) :
    Calls Tryd.prog 40 #[.agg #[.string x.f0, .int .i64 x.f1, .slice A x.f2.length c, .int .i64 x.f3, .int .i64 x.f4, .bool x.f5, .bool x.f6]] w fun e w' => e = .returned (.bool (mayB x)) ∧ Below w.heap.size w w' := by
  have HN := Lib.hid (fun W => name_any x.f0 W hs)
  have HC := Lib.hid (fun W h => aCheck_any x.f2 A c W h hc)
  have HL := Lib.hid hl
  clear hl
  unfold mayB
  generalize nameB x.f0 = nb at *
  generalize chainB x.f2 = cb at *
  obtain ⟨f0, f1, f2, f3, f4, f5, f6⟩ := x
  dsimp only at *
  generalize f2.length = n at *
  cases nb with
  | false =>
    go_enter Tryd.func40, Tryd.ntmps40
    go_wp2_with fail
    refine (HN.out _).mono ?_
    rintro e w1 ⟨rfl, b1⟩
    have HB1 := Lib.hid (bnext ((Below.refl _ w).alloc (Nat.le_refl _) _) b1)
    clear b1
    go_wp2_with fail
    all_goals
      go_ret
      exact ⟨rfl, HB1.out⟩
  | true =>
    rw [Bool.true_and]
    by_cases g1 : f1 = 1
    · subst g1
      go_enter Tryd.func40, Tryd.ntmps40
      go_wp2_with fail
      refine (HN.out _).mono ?_
      rintro e w1 ⟨rfl, b1⟩
      have hbx := blk_below (blk_new w (.cells #[.string f0, .int .i64 1, .slice A n c, .int .i64 f3, .int .i64 f4, .bool f5, .bool f6] 66)) b1
      have hx1 : w1.cell? ⟨w.heap.size, 1, none⟩ = some (.int .i64 1) := (blk_cell hbx 1).trans rfl
      have hx2 : w1.cell? ⟨w.heap.size, 2, none⟩ = some (.slice A n c) := (blk_cell hbx 2).trans rfl
      have hx3 : w1.cell? ⟨w.heap.size, 3, none⟩ = some (.int .i64 f3) := (blk_cell hbx 3).trans rfl
      have hx4 : w1.cell? ⟨w.heap.size, 4, none⟩ = some (.int .i64 f4) := (blk_cell hbx 4).trans rfl
      have HB1 := Lib.hid (bnext ((Below.refl _ w).alloc (Nat.le_refl _) _) b1)
      clear b1 hbx
      go_wp2_with (go_at_call 65; refine (HC.out _ (Kd.C_below HL.out HB1.out)).mono ?_; rintro e w2 ⟨rfl, b2⟩; have HB2 := Lib.hid (bnext HB1.out b2); clear b2)
      all_goals
        go_ret
        first
          | (refine ⟨ret1 (vbool ?_), HB2.out⟩; cases cb <;> first | rfl | (simp_all; done) | (simp_all; omega))
          | (refine ⟨ret1 (vbool ?_), HB1.out⟩; first | rfl | (simp_all; done) | (simp_all; omega))
    by_cases g2 : f1 = 2
    · subst g2
      go_enter Tryd.func40, Tryd.ntmps40
      go_wp2_with fail
      refine (HN.out _).mono ?_
      rintro e w1 ⟨rfl, b1⟩
      have hbx := blk_below (blk_new w (.cells #[.string f0, .int .i64 2, .slice A n c, .int .i64 f3, .int .i64 f4, .bool f5, .bool f6] 66)) b1
      have hx1 : w1.cell? ⟨w.heap.size, 1, none⟩ = some (.int .i64 2) := (blk_cell hbx 1).trans rfl
      have hx2 : w1.cell? ⟨w.heap.size, 2, none⟩ = some (.slice A n c) := (blk_cell hbx 2).trans rfl
      have hx3 : w1.cell? ⟨w.heap.size, 3, none⟩ = some (.int .i64 f3) := (blk_cell hbx 3).trans rfl
      have hx4 : w1.cell? ⟨w.heap.size, 4, none⟩ = some (.int .i64 f4) := (blk_cell hbx 4).trans rfl
      have HB1 := Lib.hid (bnext ((Below.refl _ w).alloc (Nat.le_refl _) _) b1)
      clear b1 hbx
      go_wp2_with fail
      all_goals
        go_ret
        refine ⟨ret1 (vbool ?_), HB1.out⟩
        first | rfl | (simp_all; done) | (simp_all; omega)
    by_cases g3 : f1 = 3
    · subst g3
      go_enter Tryd.func40, Tryd.ntmps40
      go_wp2_with fail
      refine (HN.out _).mono ?_
      rintro e w1 ⟨rfl, b1⟩
      have hbx := blk_below (blk_new w (.cells #[.string f0, .int .i64 3, .slice A n c, .int .i64 f3, .int .i64 f4, .bool f5, .bool f6] 66)) b1
      have hx1 : w1.cell? ⟨w.heap.size, 1, none⟩ = some (.int .i64 3) := (blk_cell hbx 1).trans rfl
      have hx2 : w1.cell? ⟨w.heap.size, 2, none⟩ = some (.slice A n c) := (blk_cell hbx 2).trans rfl
      have hx3 : w1.cell? ⟨w.heap.size, 3, none⟩ = some (.int .i64 f3) := (blk_cell hbx 3).trans rfl
      have hx4 : w1.cell? ⟨w.heap.size, 4, none⟩ = some (.int .i64 f4) := (blk_cell hbx 4).trans rfl
      have HB1 := Lib.hid (bnext ((Below.refl _ w).alloc (Nat.le_refl _) _) b1)
      clear b1 hbx
      go_wp2_with fail
      all_goals
        go_ret
        refine ⟨ret1 (vbool ?_), HB1.out⟩
        first | rfl | (simp_all; done) | (simp_all; omega)
    by_cases g4 : f1 = 4
    · subst g4
      go_enter Tryd.func40, Tryd.ntmps40
      go_wp2_with fail
      refine (HN.out _).mono ?_
      rintro e w1 ⟨rfl, b1⟩
      have hbx := blk_below (blk_new w (.cells #[.string f0, .int .i64 4, .slice A n c, .int .i64 f3, .int .i64 f4, .bool f5, .bool f6] 66)) b1
      have hx1 : w1.cell? ⟨w.heap.size, 1, none⟩ = some (.int .i64 4) := (blk_cell hbx 1).trans rfl
      have hx2 : w1.cell? ⟨w.heap.size, 2, none⟩ = some (.slice A n c) := (blk_cell hbx 2).trans rfl
      have hx3 : w1.cell? ⟨w.heap.size, 3, none⟩ = some (.int .i64 f3) := (blk_cell hbx 3).trans rfl
      have hx4 : w1.cell? ⟨w.heap.size, 4, none⟩ = some (.int .i64 f4) := (blk_cell hbx 4).trans rfl
      have HB1 := Lib.hid (bnext ((Below.refl _ w).alloc (Nat.le_refl _) _) b1)
      clear b1 hbx
      go_wp2_with fail
      all_goals
        go_ret
        refine ⟨ret1 (vbool ?_), HB1.out⟩
        first | rfl | (simp_all; done) | (simp_all; omega)
    by_cases g5 : f1 = 5
    · subst g5
      go_enter Tryd.func40, Tryd.ntmps40
      go_wp2_with fail
      refine (HN.out _).mono ?_
      rintro e w1 ⟨rfl, b1⟩
      have hbx := blk_below (blk_new w (.cells #[.string f0, .int .i64 5, .slice A n c, .int .i64 f3, .int .i64 f4, .bool f5, .bool f6] 66)) b1
      have hx1 : w1.cell? ⟨w.heap.size, 1, none⟩ = some (.int .i64 5) := (blk_cell hbx 1).trans rfl
      have hx2 : w1.cell? ⟨w.heap.size, 2, none⟩ = some (.slice A n c) := (blk_cell hbx 2).trans rfl
      have hx3 : w1.cell? ⟨w.heap.size, 3, none⟩ = some (.int .i64 f3) := (blk_cell hbx 3).trans rfl
      have hx4 : w1.cell? ⟨w.heap.size, 4, none⟩ = some (.int .i64 f4) := (blk_cell hbx 4).trans rfl
      have HB1 := Lib.hid (bnext ((Below.refl _ w).alloc (Nat.le_refl _) _) b1)
      clear b1 hbx
      go_wp2_with fail
      all_goals
        go_ret
        refine ⟨ret1 (vbool ?_), HB1.out⟩
        first | rfl | (simp_all; done) | (simp_all; omega)
    go_enter Tryd.func40, Tryd.ntmps40
    go_wp2_with fail
    refine (HN.out _).mono ?_
    rintro e w1 ⟨rfl, b1⟩
    have hbx := blk_below (blk_new w (.cells #[.string f0, .int .i64 f1, .slice A n c, .int .i64 f3, .int .i64 f4, .bool f5, .bool f6] 66)) b1
    have hx1 : w1.cell? ⟨w.heap.size, 1, none⟩ = some (.int .i64 f1) := (blk_cell hbx 1).trans rfl
    have hx2 : w1.cell? ⟨w.heap.size, 2, none⟩ = some (.slice A n c) := (blk_cell hbx 2).trans rfl
    have hx3 : w1.cell? ⟨w.heap.size, 3, none⟩ = some (.int .i64 f3) := (blk_cell hbx 3).trans rfl
    have hx4 : w1.cell? ⟨w.heap.size, 4, none⟩ = some (.int .i64 f4) := (blk_cell hbx 4).trans rfl
    have HB1 := Lib.hid (bnext ((Below.refl _ w).alloc (Nat.le_refl _) _) b1)
    clear b1 hbx
    go_wp2_with fail
    all_goals
      go_ret
      refine ⟨ret1 (vbool ?_), HB1.out⟩
      first | rfl | (simp_all; done) | (simp_all; omega)
end Go.Proofs.YtfmholpbpghojaaDoor
