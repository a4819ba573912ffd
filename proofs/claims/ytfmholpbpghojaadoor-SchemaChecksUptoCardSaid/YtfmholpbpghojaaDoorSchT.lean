import Derived.Test.YtfmholpbpghojaaDoorSchQ
/-! kit.Schema: two schemas are the same, field by field. -/
namespace Go.Proofs.YtfmholpbpghojaaDoor
set_option linter.unusedVariables false
set_option linter.unusedSimpArgs false
open Go.RowKit Go.Lib
open Go.Proofs.YtfmholpbpghojaaDoor.RSchemaChecks
open Go.Proofs.YtfmholpbpghojaaDoorW.PrintWords

set_option maxHeartbeats 4000000 in
set_option maxRecDepth 100000 in
/-- Two rows of the same fields: the same. -/
theorem kitSchema_same (l : List S66) (A B : Option Addr) (ca cb : Nat) (w : World) (ha : Kd.C k66 w A l.length l) (hb : Kd.C k66 w B l.length l) (hz : ∀ x ∈ l, x.f2.length < 2 ^ 60) :
    Calls Tryd.prog 45 #[.agg #[.slice A l.length ca], .agg #[.slice B l.length cb]] w fun e w' => e = .returned (.bool true) ∧ Below w.heap.size w w' := by
  have HA := Lib.hid ha
  have HB := Lib.hid hb
  have HZ := Lib.hid hz
  have hzz : l.length ≤ 9223372036854775807 := ha.2.1
  clear ha hb hz
  go_enter Tryd.func45, Tryd.ntmps45
  go_wp2_with fail
  obtain ⟨W0, hW0⟩ : ∃ W0, W0 = (w.alloc (Obj.cells #[Value.slice A l.length ca] 24)).alloc (Obj.cells #[Value.slice B l.length cb] 24) := ⟨_, rfl⟩
  have hb0 : Below w.heap.size w W0 := by subst hW0; exact ((Below.refl _ w).alloc (Nat.le_refl _) _).alloc (by rw [World.size_alloc]; omega) _
  have hs0 : W0.heap[w.heap.size]? = some (.cells #[.slice A l.length ca] 24 (0, 0)) := by subst hW0; exact blk_alloc (blk_new _ _) _
  have hs1 : W0.heap[w.heap.size + 1]? = some (.cells #[.slice B l.length cb] 24 (0, 0)) := by subst hW0; have := blk_new (w.alloc (Obj.cells #[Value.slice A l.length ca] 24)) (.cells #[.slice B l.length cb] 24); rwa [World.size_alloc] at this
  rw [← hW0]
  clear hW0
  have HS0 := Lib.hid hs0
  have HS1 := Lib.hid hs1
  have HB0 := Lib.hid hb0
  clear hs0 hs1 hb0
  go_loopg [5] l.length (fun kq v5 w' => ∃ i : Nat, v5 = .int .i64 (i : Int) ∧ Hid (i + kq = l.length) ∧ Hid (Below W0.heap.size W0 w'))
  case atStart => exact ⟨0, rfl, by show _ = _; omega, Below.refl _ _⟩
  case round =>
    obtain ⟨i, rfl, hi, hbl⟩ := hrel
    have hi1 := hi.out
    have hni : (0 : Int) ≤ i := by omega
    have hbw : Below w.heap.size w wr := HB0.out.trans (hbl.out.mono HB0.out.size)
    have hsb := blk_below HS0.out hbl.out
    have hsc : wr.cell? ⟨w.heap.size, 0, none⟩ = some (.slice A l.length ca) := (blk_cell hsb 0).trans rfl
    have hsl : w.heap.size < wr.heap.size := blk_lt hsb
    have htb := blk_below HS1.out hbl.out
    have htc : wr.cell? ⟨w.heap.size + 1, 0, none⟩ = some (.slice B l.length cb) := (blk_cell htb 0).trans rfl
    have htl : w.heap.size + 1 < wr.heap.size := blk_lt htb
    have HBW := Lib.hid hbw
    clear hsb htb
    cases gk with
    | zero =>
      have hi2 : i = l.length := by omega
      subst hi2
      go_wp2_with fail
      go_ret
      exact ⟨rfl, HBW.out⟩
    | succ k =>
      have hia : i < l.length := by omega
      have hia' : (i : Int) < l.length := by omega
      obtain ⟨ad, A2, c2, eA, hx0, hx1, hx2, hx3, hx4, hx5, hx6, hl2, hi2⟩ := at_T66 HA.out i hni hia'
      subst eA
      obtain ⟨bd, B2, d2, eB, hy0, hy1, hy2, hy3, hy4, hy5, hy6, hm2, hj2⟩ := at_T66 HB.out i hni hia'
      subst eB
      rw [Int.toNat_natCast] at hx0 hx1 hx2 hx3 hx4 hx5 hx6 hy0 hy1 hy2 hy3 hy4 hy5 hy6
      have hadl : (ad.add (i * 7)).block < wr.heap.size := Nat.lt_of_lt_of_le (World.block_lt_of_cell? w _ hx0) hbw.size
      have hbdl : (bd.add (i * 7)).block < wr.heap.size := Nat.lt_of_lt_of_le (World.block_lt_of_cell? w _ hy0) hbw.size
      replace hx0 := (hbw.cell (World.block_lt_of_cell? w _ hx0)).trans hx0
      replace hx1 := (hbw.cell (World.block_lt_of_cell? w _ hx1)).trans hx1
      replace hx2 := (hbw.cell (World.block_lt_of_cell? w _ hx2)).trans hx2
      replace hx3 := (hbw.cell (World.block_lt_of_cell? w _ hx3)).trans hx3
      replace hx4 := (hbw.cell (World.block_lt_of_cell? w _ hx4)).trans hx4
      replace hx5 := (hbw.cell (World.block_lt_of_cell? w _ hx5)).trans hx5
      replace hx6 := (hbw.cell (World.block_lt_of_cell? w _ hx6)).trans hx6
      replace hy0 := (hbw.cell (World.block_lt_of_cell? w _ hy0)).trans hy0
      replace hy1 := (hbw.cell (World.block_lt_of_cell? w _ hy1)).trans hy1
      replace hy2 := (hbw.cell (World.block_lt_of_cell? w _ hy2)).trans hy2
      replace hy3 := (hbw.cell (World.block_lt_of_cell? w _ hy3)).trans hy3
      replace hy4 := (hbw.cell (World.block_lt_of_cell? w _ hy4)).trans hy4
      replace hy5 := (hbw.cell (World.block_lt_of_cell? w _ hy5)).trans hy5
      replace hy6 := (hbw.cell (World.block_lt_of_cell? w _ hy6)).trans hy6
      have HI := Lib.hid (Kd.C_below hi2 hbw)
      have HJ := Lib.hid (Kd.C_below hj2 hbw)
      have hmem : rd_T66 l i ∈ l := by simp [rd_T66, hia]
      have hzx := HZ.out _ hmem
      clear hbw hi2 hj2 hmem
      generalize rd_T66 l (i : Int) = x at *
      have HIN := Lib.hid (fun W h1 h2 => lecternkit_Ints.calls (x.f2.length + 1) A2 c2 x.f2 B2 d2 x.f2 true W h1 hl2 h2 hm2 (by rw [ints_f x.f2 x.f2 hzx]; simp))
      have HB1 := Lib.hid ((hbl.out.alloc hbl.out.size (Obj.cells #[.string x.f0, .int .i64 x.f1, .slice A2 x.f2.length c2, .int .i64 x.f3, .int .i64 x.f4, .bool x.f5, .bool x.f6] 66)).alloc (by rw [World.size_alloc]; have := hbl.out.size; omega) (Obj.cells #[.string x.f0, .int .i64 x.f1, .slice B2 x.f2.length d2, .int .i64 x.f3, .int .i64 x.f4, .bool x.f5, .bool x.f6] 66))
      have HW1 := Lib.hid ((HBW.out.alloc HBW.out.size (Obj.cells #[.string x.f0, .int .i64 x.f1, .slice A2 x.f2.length c2, .int .i64 x.f3, .int .i64 x.f4, .bool x.f5, .bool x.f6] 66)).alloc (by rw [World.size_alloc]; have := HBW.out.size; omega) (Obj.cells #[.string x.f0, .int .i64 x.f1, .slice B2 x.f2.length d2, .int .i64 x.f3, .int .i64 x.f4, .bool x.f5, .bool x.f6] 66))
      clear hl2 hm2 hzx
      go_wp2_with fail
      refine (HIN.out _ (Kd.C_alloc (Kd.C_alloc HI.out _) _) (Kd.C_alloc (Kd.C_alloc HJ.out _) _)).mono ?_
      rintro e w1 ⟨rfl, d1⟩
      have hbp := blk_below (blk_alloc (blk_new wr (.cells #[.string x.f0, .int .i64 x.f1, .slice A2 x.f2.length c2, .int .i64 x.f3, .int .i64 x.f4, .bool x.f5, .bool x.f6] 66)) (.cells #[.string x.f0, .int .i64 x.f1, .slice B2 x.f2.length d2, .int .i64 x.f3, .int .i64 x.f4, .bool x.f5, .bool x.f6] 66)) d1.below
      have hbr0 := blk_new (wr.alloc (.cells #[.string x.f0, .int .i64 x.f1, .slice A2 x.f2.length c2, .int .i64 x.f3, .int .i64 x.f4, .bool x.f5, .bool x.f6] 66)) (.cells #[.string x.f0, .int .i64 x.f1, .slice B2 x.f2.length d2, .int .i64 x.f3, .int .i64 x.f4, .bool x.f5, .bool x.f6] 66)
      rw [World.size_alloc] at hbr0
      have hbr := blk_below hbr0 d1.below
      have hp3 : w1.cell? ⟨wr.heap.size, 3, none⟩ = some (.int .i64 x.f3) := (blk_cell hbp 3).trans rfl
      have hp4 : w1.cell? ⟨wr.heap.size, 4, none⟩ = some (.int .i64 x.f4) := (blk_cell hbp 4).trans rfl
      have hp5 : w1.cell? ⟨wr.heap.size, 5, none⟩ = some (.bool x.f5) := (blk_cell hbp 5).trans rfl
      have hp6 : w1.cell? ⟨wr.heap.size, 6, none⟩ = some (.bool x.f6) := (blk_cell hbp 6).trans rfl
      have hr3 : w1.cell? ⟨wr.heap.size + 1, 3, none⟩ = some (.int .i64 x.f3) := (blk_cell hbr 3).trans rfl
      have hr4 : w1.cell? ⟨wr.heap.size + 1, 4, none⟩ = some (.int .i64 x.f4) := (blk_cell hbr 4).trans rfl
      have hr5 : w1.cell? ⟨wr.heap.size + 1, 5, none⟩ = some (.bool x.f5) := (blk_cell hbr 5).trans rfl
      have hr6 : w1.cell? ⟨wr.heap.size + 1, 6, none⟩ = some (.bool x.f6) := (blk_cell hbr 6).trans rfl
      have HB2 := Lib.hid (bnext HB1.out d1.below)
      have HW2 := Lib.hid (bnext HW1.out d1.below)
      clear d1 hbp hbr0 hbr
      go_wp2_with fail
      go_roundg k
      case measure => omega
      case rel => exact ⟨i + 1, by go_num, by show i + 1 + k = l.length; omega, HB2⟩
end Go.Proofs.YtfmholpbpghojaaDoor
