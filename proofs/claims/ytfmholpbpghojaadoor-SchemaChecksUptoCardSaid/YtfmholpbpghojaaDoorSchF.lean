import Derived.Test.YtfmholpbpghojaaDoorSchR
import Derived.Test.YtfmholpbpghojaaDoorBase
/-! Schema: Find, Name. -/
namespace Go.Proofs.YtfmholpbpghojaaDoor
set_option linter.unusedVariables false
set_option linter.unusedSimpArgs false
open Go.RowKit Go.Lib
open Go.Proofs.YtfmholpbpghojaaDoor.RSchemaChecks
open Go.Proofs.YtfmholpbpghojaaDoorW.PrintWords

theorem bnext {w w1 w2 : World} (h : Below w.heap.size w w1) (k : Below w1.heap.size w1 w2) : Below w.heap.size w w2 := h.trans (k.mono h.size)
/-- Find's index: -1: none. -/
def findI (name : ByteArray) : List S66 → Nat → Int
  | [], _ => -1
  | x :: r, i => if (x.f0.toList == name.toList) = true then (i : Int) else findI name r (i + 1)
theorem rd_dropF (l : List S66) (j : Nat) (h : j < l.length) : l.drop j = rd_T66 l (j : Int) :: l.drop (j + 1) := by
  rw [List.drop_eq_getElem_cons h]
  simp [rd_T66, h]
theorem same_any (x : S66) (A2 : Option Addr) (n2 c2 : Nat) (name : ByteArray) (g : Nat) (w : World) (hg : w.heap[g]? = some (.cells #[.string name] 9 (0, 0))) :
    Calls Tryd.prog 39 #[.agg #[.string x.f0, .int .i64 x.f1, .slice A2 n2 c2, .int .i64 x.f3, .int .i64 x.f4, .bool x.f5, .bool x.f6], .pointer (some ⟨g, 0, none⟩)] w fun e w' => e = .returned (.bool (x.f0.toList == name.toList)) ∧ Below w.heap.size w w' := by
  have hc : w.cell? ⟨g, 0, none⟩ = some (.string name) := (blk_cell hg 0).trans rfl
  have hgz := blk_lt hg
  go_enter Tryd.func39, Tryd.ntmps39
  go_wp2_with fail
  go_ret
  exact ⟨rfl, (Below.refl _ _).alloc (Nat.le_refl _) _⟩
theorem indexFunc_any (l : List S66) (A : Option Addr) (c : Nat) (name : ByteArray) (g : Nat) (w : World) (hl : Kd.C k66 w A l.length l) (hg : w.heap[g]? = some (.cells #[.string name] 9 (0, 0))) :
    Calls Tryd.prog 38 #[.slice A l.length c, .func (.func 39) #[] #[.pointer (some ⟨g, 0, none⟩)]] w fun e w' => e = .returned (.int .i64 (findI name l 0)) ∧ Below w.heap.size w w' := by
  have HL := Lib.hid hl
  have HG := Lib.hid hg
  have hz : l.length ≤ 9223372036854775807 := hl.2.1
  have hgz := blk_lt hg
  clear hl hg
  obtain ⟨R, hR⟩ : ∃ R, R = findI name l 0 := ⟨_, rfl⟩
  have HR := Lib.hid (show findI name (l.drop 0) 0 = R from hR.symm)
  rw [← hR]
  clear hR
  go_enter Tryd.func38, Tryd.ntmps38
  go_wp2_with fail
  go_loopg [8] l.length (fun kq v8 w' => ∃ i : Nat, v8 = .int .i64 (i : Int) ∧ Hid (i + kq = l.length) ∧ Hid (findI name (l.drop i) i = R) ∧ Hid (Below w.heap.size w w'))
  case atStart => exact ⟨0, rfl, by show _ = _; omega, HR, Below.refl _ _⟩
  case round =>
    obtain ⟨i, rfl, hi, hr, hbl⟩ := hrel
    have hi1 := hi.out
    have hni : (0 : Int) ≤ i := by omega
    cases gk with
    | zero =>
      have hi2 : i = l.length := by omega
      subst hi2
      have e0 := hr.out
      rw [List.drop_eq_nil_of_le (Nat.le_refl _)] at e0
      have e1 : R = -1 := e0.symm
      subst e1
      go_wp2_with fail
      go_ret
      exact ⟨rfl, hbl.out⟩
    | succ k =>
      have hia : i < l.length := by omega
      have hia' : (i : Int) < l.length := by omega
      have e0 := hr.out
      rw [rd_dropF l i hia] at e0
      unfold findI at e0
      obtain ⟨ad, A2, c2, eA, hx0, hx1, hx2, hx3, hx4, hx5, hx6, -, -⟩ := at_T66 HL.out i hni hia'
      subst eA
      rw [Int.toNat_natCast] at hx0 hx1 hx2 hx3 hx4 hx5 hx6
      replace hx0 := (hbl.out.cell (World.block_lt_of_cell? w _ hx0)).trans hx0
      replace hx1 := (hbl.out.cell (World.block_lt_of_cell? w _ hx1)).trans hx1
      replace hx2 := (hbl.out.cell (World.block_lt_of_cell? w _ hx2)).trans hx2
      replace hx3 := (hbl.out.cell (World.block_lt_of_cell? w _ hx3)).trans hx3
      replace hx4 := (hbl.out.cell (World.block_lt_of_cell? w _ hx4)).trans hx4
      replace hx5 := (hbl.out.cell (World.block_lt_of_cell? w _ hx5)).trans hx5
      replace hx6 := (hbl.out.cell (World.block_lt_of_cell? w _ hx6)).trans hx6
      have HS := Lib.hid (fun W h => same_any (rd_T66 l i) A2 (rd_T66 l i).f2.length c2 name g W h)
      generalize rd_T66 l (i : Int) = x at *
      cases hq : x.f0.toList == name.toList with
      | true =>
        rw [hq, if_pos rfl] at e0
        rw [hq] at HS
        subst e0
        go_wp2_with fail
        refine (HS.out _ (blk_below HG.out hbl.out)).mono ?_
        rintro e w1 ⟨rfl, b1⟩
        have HB1 := Lib.hid (bnext hbl.out b1)
        clear b1
        go_wp2_with fail
        go_ret
        exact ⟨rfl, HB1.out⟩
      | false =>
        rw [hq, if_neg (by decide)] at e0
        rw [hq] at HS
        have HE := Lib.hid e0
        clear e0
        go_wp2_with fail
        refine (HS.out _ (blk_below HG.out hbl.out)).mono ?_
        rintro e w1 ⟨rfl, b1⟩
        have HB1 := Lib.hid (bnext hbl.out b1)
        clear b1
        go_wp2_with fail
        go_roundg k
        case measure => omega
        case rel => exact ⟨i + 1, by go_num, by show i + 1 + k = l.length; omega, HE, HB1⟩
theorem find_any (l : List S66) (A : Option Addr) (c : Nat) (name : ByteArray) (w : World) (hl : Kd.C k66 w A l.length l) :
    Calls Tryd.prog 10 #[.agg #[.slice A l.length c], .string name] w fun e w' => e = .returned (.tuple #[.int .i64 (mx 0 (findI name l 0)), .bool (decide (0 ≤ findI name l 0))]) ∧ Below w.heap.size w w' := by
  have hmax := @max_i64 Tryd.prog
  have HL := Lib.hid hl
  have HI := Lib.hid (fun W g h1 h2 => indexFunc_any l A c name g W h1 h2)
  clear hl
  generalize findI name l 0 = v at *
  go_enter Tryd.func10, Tryd.ntmps10
  go_wp2_with fail
  have hb0 : Below w.heap.size w ((w.alloc (Obj.cells #[Value.slice A l.length c] 24)).alloc (Obj.cells #[Value.string name] 9)) := ((Below.refl _ w).alloc (Nat.le_refl _) _).alloc (by rw [World.size_alloc]; omega) _
  refine (HI.out _ (w.heap.size + 1) (Kd.C_below HL.out hb0) (by have := blk_new (w.alloc (Obj.cells #[Value.slice A l.length c] 24)) (.cells #[.string name] 9); rwa [World.size_alloc] at this)).mono ?_
  rintro e w1 ⟨rfl, b1⟩
  have HB1 := Lib.hid (bnext hb0 b1)
  clear b1
  go_wp2_with fail
  go_ret2
  exact ⟨ret2 (by first | rfl | (simp; done)) (vbool (by first | rfl | (simp; done))), HB1.out⟩
end Go.Proofs.YtfmholpbpghojaaDoor
