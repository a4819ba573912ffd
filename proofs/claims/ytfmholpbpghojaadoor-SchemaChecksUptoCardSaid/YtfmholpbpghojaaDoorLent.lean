import Derived.Test.YtfmholpbpghojaaDoorBase
import Derived.Test.YtfmholpbpghojaaDoorProg
import Derived.Below
import Derived.Deep.Draws
import Derived.Deep.AppendLies
import Derived.Maps.AppendAt
import Derived.OwnWalk
import Derived.Laws.BytesArg
import Derived.Laws.MakeOwn
import Derived.Laws.OwnMore
import Derived.Deep.OwnRows
import Derived.Tactics
import Derived.Lib.ConvBytes
import Derived.Laws.Slices
import Derived.WalkKit
import Derived.KernelRfl
import Derived.RowKit3
import Derived.Deep.LoopGhost
import Derived.Deep.QuietTactic
import Derived.BigQuiet
import Derived.WideLaws
import Derived.Deep.DeepCutAuto
import Derived.Deep.CutBlock
import Derived.Deep.RegionHeld3
import Derived.Laws.Rows
import Derived.Lib.AppendStr
import Derived.ArgAppend
import Derived.Laws.IdiomCopy
import Derived.OrdersHeld
import Derived.Laws.BitsLemmas
import Derived.RowKit
import Derived.Test.YtfmholpbpghojaaDoorWWords
import Derived.Test.YtfmholpbpghojaaDoorWLast
import Derived.Test.YtfmholpbpghojaaDoorWTab
import Derived.Test.YtfmholpbpghojaaDoorWFour
import Derived.Test.YtfmholpbpghojaaDoorWQPut
import Derived.Test.YtfmholpbpghojaaDoorWApart
import Derived.Test.YtfmholpbpghojaaDoorWArr
import Derived.Test.YtfmholpbpghojaaDoorWZeros
import Derived.Test.YtfmholpbpghojaaDoorWFoot
import Derived.Test.YtfmholpbpghojaaDoorWKept
import Derived.Test.YtfmholpbpghojaaDoorWShare
import Derived.Test.YtfmholpbpghojaaDoorWN
import Derived.Test.YtfmholpbpghojaaDoorWFootNe
import Derived.Test.YtfmholpbpghojaaDoorWAt
import Derived.Test.YtfmholpbpghojaaDoorWEqStruct
import Derived.Test.YtfmholpbpghojaaDoorWRepsOne
import Derived.Test.YtfmholpbpghojaaDoorWInv
import Derived.Test.YtfmholpbpghojaaDoorWInvWords
import Derived.Test.YtfmholpbpghojaaDoorWGuard
import Derived.Test.YtfmholpbpghojaaDoorWNEv
import Derived.Test.YtfmholpbpghojaaDoorWMore
/-! What is lent: rows in memory of their own, with a mark behind each. -/
namespace Go.Proofs.YtfmholpbpghojaaDoor
set_option linter.unusedVariables false
set_option linter.unusedSimpArgs false
open Go.RowKit Go.Lib
open Go.Proofs.YtfmholpbpghojaaDoorW.PrintWords Go.Proofs.YtfmholpbpghojaaDoorW.PrintLast Go.Proofs.YtfmholpbpghojaaDoorW.PrintMore

/-- A row of elements, and what stands behind it in the same memory. -/
def kview {α : Type} (e : Nat) (d : Kd α) : Kd (List α × List α) where
  sz := 1
  E := e :: d.E
  K := fun w xs cs => ∃ A c, cs = [.slice A xs.1.length c] ∧ (xs.1 ++ xs.2).length ≤ c ∧ Kd.C d w A (xs.1 ++ xs.2).length (xs.1 ++ xs.2)
  M := fun w base ok xs cs => ∃ A c, cs = [.slice A xs.1.length c] ∧ Kd.R d e w base ok (.slice A (xs.1 ++ xs.2).length c) (xs.1 ++ xs.2)
  K_len := by
    rintro w x cs ⟨A, c, rfl, _⟩
    rfl
  K_one := by
    rintro w x cs ⟨A, c, rfl, _⟩ u hu
    rw [List.mem_singleton.1 hu]
    rfl
  K_below := by
    rintro w w1 x cs hb ⟨A, c, rfl, hl, hr⟩
    exact ⟨A, c, rfl, hl, Kd.C_below hr hb⟩
  K_of_M := by
    rintro w base ok x cs ⟨A, c, rfl, h⟩
    obtain ⟨-, hl, hr⟩ := Kd.R_reads' h
    exact ⟨A, c, rfl, hl, hr⟩
  M_mono := by
    rintro w base ok ok' x cs hok ⟨A, c, rfl, h⟩
    exact ⟨A, c, rfl, Kd.R_mono h hok⟩
  M_bound := by
    rintro w base ok x cs ⟨A, c, rfl, h⟩
    exact ⟨A, c, rfl, Kd.R_bound h⟩
  M_move := by
    rintro w w1 base ok x cs hm ⟨A, c, rfl, h⟩
    exact ⟨A, c, rfl, Kd.R_move h hm⟩
  M_lower := by
    rintro w base base' ok x cs hb ⟨A, c, rfl, h⟩
    exact ⟨A, c, rfl, Kd.R_lower h hb⟩
theorem info_int : (Tryd.prog.info? 3).map (fun i => (i.zero, i.size, i.bytes)) = some (some (.int .i64 0), 1, 8) := by kernel_rfl
theorem info_int64 : (Tryd.prog.info? 2).map (fun i => (i.zero, i.size, i.bytes)) = some (some (.int .i64 0), 1, 8) := by kernel_rfl
theorem lentInts_any (A : Option Addr) (c : Nat) (l : List Int) (w : World) (hr : Kd.C (Kd.int .i64) w A l.length l) (hz : l.length < 17592186044000) :
    Calls Tryd.prog 36 #[.slice A l.length c] w fun e w' => ∃ v, e = .returned v ∧ (kview 3 (Kd.int .i64)).M w' w.heap.size (fun k => w.heap.size ≤ k) (l, [-7171]) [v] ∧ Below w.heap.size w w' := by
  have HR := Lib.hid hr
  clear hr
  obtain ⟨y, hy⟩ : ∃ y, y = ([] ++ l : List Int) := ⟨_, rfl⟩
  obtain ⟨F, hF⟩ : ∃ F, F = y ++ [-7171] := ⟨_, rfl⟩
  have hyz : y.length = l.length := by rw [hy]; simp
  have hFz : F.length = l.length + 1 := by rw [hF]; simp [hyz]
  have HZ := Lib.hid (And.intro hyz hFz)
  have HF := Lib.hid hF
  have HY := Lib.hid hy
  clear hF hy hyz hFz
  go_enter Tryd.func36, Tryd.ntmps36
  go_wp2_with (first
    | ((with_reducible refine gate_builtin (b := .append) (xs := #[.tmp 4, .tmp 5]) rfl ?_); at_builtin; refine Kd.R_append_rows (Kd.int .i64) (w0 := w) w.heap.size rfl (.tmp 4) (.tmp 5) 64 3 (.int .i64 0) 8 rfl Tryd.underlying64 info_int rfl (by decide) (by omega) (.slice none 0 0) ([] : List Int) l _ _ _ (fun k => w.heap.size ≤ k) (fun _ => False) rfl rfl (Kd.R_nil _ _ _ _ _) HR.out (fun _ _ h => h) (fun _ h => h.elim) (fun _ h => h) (Below.refl _ _) (Nat.le_refl _) (by simp; omega) ?_; intro v1 w1 ho hb hg hat; rw [← HY.out] at ho; have HO1 := Lib.hid ho; have HB1 := Lib.hid hb; clear ho hb hg hat)
    | ((with_reducible refine gate_builtin (b := .append) (xs := #[.tmp 7, .tmp 8]) rfl ?_); at_builtin; refine Kd.R_append (Kd.int .i64) (w0 := w) w.heap.size rfl (.tmp 7) (.tmp 8) 64 3 (.int .i64 0) 8 rfl Tryd.underlying64 info_int rfl (by decide) (by omega) v1 y (-7171) [.int .i64 (-7171)] (fun k => w.heap.size ≤ k) (fun _ => False) rfl rfl rfl (fun _ hk => hk.elim) (fun k hk => Nat.le_trans HB1.out.size hk) HO1.out HB1.out HB1.out.size (by have := HZ.out.1; omega) ?_; intro v2 w2 ho hb hg hat; rw [← HF.out] at ho; have HO2 := Lib.hid ho; have HB2 := Lib.hid hb; clear ho hb hg hat; obtain ⟨A2, c2, eo⟩ := Kd.R_slice HO2.out; subst eo; have hq : (l.length : Int) ≤ (F.length : Int) := (by have := HZ.out.2; omega); obtain ⟨i0, hi0, _, hsz, _⟩ := info_parts info_int; have hcut := cut_to (P := Tryd.prog) 64 3 .i64 Tryd.underlying64 hi0 A2 F.length c2 (l.length : Int) (by omega) hq (Kd.R_reads' HO2.out).2.1; replace hq := eq_true hq; clear hi0 hsz))
  go_ret
  refine ⟨_, rfl, ⟨A2, c2, by simp, ?_⟩, HB2.out⟩
  have e : l ++ [-7171] = F := by rw [HF.out, HY.out]; simp
  show Kd.R _ _ _ _ _ (.slice A2 (l ++ [-7171]).length c2) (l ++ [-7171])
  rw [e]
  exact HO2.out
theorem lentInt64s_any (A : Option Addr) (c : Nat) (l : List Int) (w : World) (hr : Kd.C (Kd.int .i64) w A l.length l) (hz : l.length < 17592186044000) :
    Calls Tryd.prog 64 #[.slice A l.length c] w fun e w' => ∃ v, e = .returned v ∧ (kview 2 (Kd.int .i64)).M w' w.heap.size (fun k => w.heap.size ≤ k) (l, [-7171]) [v] ∧ Below w.heap.size w w' := by
  have HR := Lib.hid hr
  clear hr
  obtain ⟨y, hy⟩ : ∃ y, y = ([] ++ l : List Int) := ⟨_, rfl⟩
  obtain ⟨F, hF⟩ : ∃ F, F = y ++ [-7171] := ⟨_, rfl⟩
  have hyz : y.length = l.length := by rw [hy]; simp
  have hFz : F.length = l.length + 1 := by rw [hF]; simp [hyz]
  have HZ := Lib.hid (And.intro hyz hFz)
  have HF := Lib.hid hF
  have HY := Lib.hid hy
  clear hF hy hyz hFz
  go_enter Tryd.func64, Tryd.ntmps64
  go_wp2_with (first
    | ((with_reducible refine gate_builtin (b := .append) (xs := #[.tmp 4, .tmp 5]) rfl ?_); at_builtin; refine Kd.R_append_rows (Kd.int .i64) (w0 := w) w.heap.size rfl (.tmp 4) (.tmp 5) 73 2 (.int .i64 0) 8 rfl Tryd.underlying73 info_int64 rfl (by decide) (by omega) (.slice none 0 0) ([] : List Int) l _ _ _ (fun k => w.heap.size ≤ k) (fun _ => False) rfl rfl (Kd.R_nil _ _ _ _ _) HR.out (fun _ _ h => h) (fun _ h => h.elim) (fun _ h => h) (Below.refl _ _) (Nat.le_refl _) (by simp; omega) ?_; intro v1 w1 ho hb hg hat; rw [← HY.out] at ho; have HO1 := Lib.hid ho; have HB1 := Lib.hid hb; clear ho hb hg hat)
    | ((with_reducible refine gate_builtin (b := .append) (xs := #[.tmp 7, .tmp 8]) rfl ?_); at_builtin; refine Kd.R_append (Kd.int .i64) (w0 := w) w.heap.size rfl (.tmp 7) (.tmp 8) 73 2 (.int .i64 0) 8 rfl Tryd.underlying73 info_int64 rfl (by decide) (by omega) v1 y (-7171) [.int .i64 (-7171)] (fun k => w.heap.size ≤ k) (fun _ => False) rfl rfl rfl (fun _ hk => hk.elim) (fun k hk => Nat.le_trans HB1.out.size hk) HO1.out HB1.out HB1.out.size (by have := HZ.out.1; omega) ?_; intro v2 w2 ho hb hg hat; rw [← HF.out] at ho; have HO2 := Lib.hid ho; have HB2 := Lib.hid hb; clear ho hb hg hat; obtain ⟨A2, c2, eo⟩ := Kd.R_slice HO2.out; subst eo; have hq : (l.length : Int) ≤ (F.length : Int) := (by have := HZ.out.2; omega); obtain ⟨i0, hi0, _, hsz, _⟩ := info_parts info_int64; have hcut := cut_to (P := Tryd.prog) 73 2 .i64 Tryd.underlying73 hi0 A2 F.length c2 (l.length : Int) (by omega) hq (Kd.R_reads' HO2.out).2.1; replace hq := eq_true hq; clear hi0 hsz))
  go_ret
  refine ⟨_, rfl, ⟨A2, c2, by simp, ?_⟩, HB2.out⟩
  have e : l ++ [-7171] = F := by rw [HF.out, HY.out]; simp
  show Kd.R _ _ _ _ _ (.slice A2 (l ++ [-7171]).length c2) (l ++ [-7171])
  rw [e]
  exact HO2.out
end Go.Proofs.YtfmholpbpghojaaDoor
