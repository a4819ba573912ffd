/- The law lecternlaw07.OrderBytes answers true at every two rows of keys whose readings are together of bulk at most 1048576, and they read as before (the tied card of the second form). Conditions: the second form's bulk, and the row's own: five listed variables of Go's library (strconv's table of powers, two tables of math/bits, two errors) hold what their initialisers lay. -/
import Derived.Test.YtfmholpbpghojaaDoorRowBase
import Derived.Test.YtfmholpbpghojaaDoorOrdB
import Derived.Test.YtfmholpbpghojaaDoorKdOpen
namespace Go.Proofs.YtfmholpbpghojaaDoor.lawOrderBytesUpto
set_option linter.unusedVariables false
set_option linter.unusedSimpArgs false
open Go.ChangeShapes Go.WideShapes Go.ChangeAt Go.RowKit Go.Joins
open Go.ChangeMaps (open_string shut_string)
open Go.Proofs.YtfmholpbpghojaaDoor.ROrderBytes
open Go.Proofs.YtfmholpbpghojaaDoorW.PrintWords
theorem cellsKey : Tryd.prog.cellsOf 49 = 3 := by kernel_rfl
instance : Inhabited S49 := ⟨z49⟩
/-- What a key's reading tells of it. -/
def Qk {H : Type} (x : S49) (y : DataW H) : Prop := inR x ∧ szK x ≤ 4 * Rows.uptoBulk y
set_option maxRecDepth 100000 in
theorem key_trod {H : Type} {enc : TypeId × Value → H} {W : World} {base : Nat} {sp : Nat → Bool} {held : Bool} (n : Nat) (cs : List Value) (y : DataW H × List MemPlace) (h : DataW.trod enc Tryd.prog W base sp held n 49 cs = some y) : ∃ x : S49, k49.K W x cs ∧ Qk x y.1 := by
  obtain ⟨y0, y1, y2, m, rfl, hl, h0, h1, h2⟩ := Go.Deep.trod_struct3 Tryd.underlying49 h
  rw [cellsKey] at hl
  obtain ⟨c0, c1, c2, rfl⟩ : ∃ a b c, cs = [a, b, c] := by match cs, hl with | [a, b, c], _ => exact ⟨a, b, c, rfl⟩
  have z0 : Tryd.prog.cellsOf 3 = 1 := by kernel_rfl
  have z1 : Tryd.prog.cellsOf 2 = 1 := by kernel_rfl
  have z2 : Tryd.prog.cellsOf 9 = 1 := by kernel_rfl
  simp only [z0, z1, z2, List.drop_zero, List.drop_succ_cons, List.take_succ_cons, List.take_zero] at h0 h1 h2
  obtain ⟨a, e0, r0, w0⟩ := DataW.trod_int Tryd.underlying3 h0
  obtain ⟨b, e1, r1, w1⟩ := DataW.trod_int Tryd.underlying2 h1
  obtain ⟨c, e2, r2, w2⟩ := DataW.trod_string Tryd.underlying9 h2
  simp at e0 e1 e2
  subst e0 e1 e2 r0 r1 r2
  refine ⟨⟨a, b, c⟩, k49_mk W ⟨a, b, c⟩, bounds_i64 w1, ?_⟩
  have hs : c.data.toList.length = c.size := (Go.Lib.size_eq c).symm
  simp only [Rows.uptoBulk, Rows.uptoBulkAll, szK]
  omega
theorem bulk_of {H : Type} {d : DataW H} {ds : List (DataW H)} (h : (d = .nil ∧ ds = []) ∨ ∃ sp, d = .slice ds sp) : Rows.uptoBulkAll ds ≤ Rows.uptoBulk d := by
  rcases h with ⟨rfl, rfl⟩ | ⟨sp, rfl⟩ <;> simp only [Rows.uptoBulk, Rows.uptoBulkAll] <;> omega
theorem szL_of {H : Type} {xs : List S49} {ds : List (DataW H)} (h : both Qk xs ds) : szL xs ≤ 4 * Rows.uptoBulkAll ds := both_bulk szK 4 (fun _ _ q => q.2) h
set_option maxRecDepth 100000 in
theorem contract (H : Type) (enc : TypeId × Value → H) (W : World) (base : Nat) (args : Array Value) (ds gs : List (DataW H)) (before : List MemPlace)
    (hval : ∀ (j : Nat) t v, Tryd.f7.params[j]? = some t → args[j]? = some v → Value.okWide Tryd.prog W .any base t v)
    (hW : DataW.Whole enc Tryd.prog Tryd.f7.params.toList Rows.orderBytesSpec.vars false W args.toList ds gs before) (hL : laidMetH Tryd.prog Rows.orderBytesUptoRow.laid W) (hk : Rows.uptoSmall H (ds ++ gs) = true) :
    Calls Tryd.prog 7 args W fun e W' => ∃ v, e = .returned v ∧ Rows.orderBytesSpec.post enc Tryd.prog Tryd.f7 false true false false W args v W' := by
  have hW' := hW
  obtain ⟨p, q, hA0, hV, rfl, hfz, hnd⟩ := hW
  have hA : DataW.TrodAll enc Tryd.prog W 0 (fun _ => true) true Tryd.f7.params.toList args.toList ds p := hA0
  rw [Tryd.params7] at hA hval
  obtain ⟨v0, vs0, d0, ds0, p0, q0, hargs, rfl, rfl, h0, r0⟩ := trodAll_cons hA
  obtain ⟨v1, vs1, d1, ds1, p1, q1, rfl, rfl, rfl, h1, r1⟩ := trodAll_cons r0
  obtain ⟨rfl, rfl, rfl⟩ := trodAll_nil r1
  obtain rfl : args = #[v0, v1] := by cases args; simp_all
  obtain ⟨rfl, rfl⟩ := trodVars_none hV
  clear hA0
  have l0 : ∀ x ∈ p0, x.block < W.heap.size := by obtain ⟨m, hm⟩ := h0; exact DataW.trod_lt m _ _ _ hm
  have g0 := h0
  have l1 : ∀ x ∈ p1, x.block < W.heap.size := by obtain ⟨m, hm⟩ := h1; exact DataW.trod_lt m _ _ _ hm
  have g1 := h1
  obtain ⟨sa0, sn0, sc0, rfl⟩ := okWide_slice Tryd.underlying56 (hval 0 56 v0 rfl rfl)
  obtain ⟨sa1, sn1, sc1, rfl⟩ := okWide_slice Tryd.underlying56 (hval 1 56 v1 rfl rfl)
  obtain ⟨m0, t0⟩ := h0
  obtain ⟨m1, t1⟩ := h1
  obtain ⟨A0, c0, x0, D0, e0, k0, C0, F0, N0⟩ := kd_slice k49 Qk Tryd.underlying56 cellsKey key_trod t0
  obtain ⟨A1, c1, x1, D1, e1, k1, C1, F1, N1⟩ := kd_slice k49 Qk Tryd.underlying56 cellsKey key_trod t1
  simp [Value.cells] at e0 e1
  obtain ⟨rfl, rfl, rfl⟩ := e0
  obtain ⟨rfl, rfl, rfl⟩ := e1
  have hb := of_decide_eq_true hk
  simp only [List.append_nil, Rows.uptoBulkAll] at hb
  have s0 := szL_of F0
  have s1 := szL_of F1
  have b0 := bulk_of N0
  have b1 := bulk_of N1
  dsimp only at b0 b1
  have g0' : ∀ x ∈ x0, inR x := fun x hx => (both_mem F0 x hx).elim fun _ q => q.1
  have g1' : ∀ x ∈ x1, inR x := fun x hx => (both_mem F1 x hx).elim fun _ q => q.1
  refine (orderBytes_walk x0 x1 sa0 sa1 sc0 sc1 W (layN_of hL) C0 C1 k0 k1 g0' g1' (by omega) (by omega)).mono fun e W' ⟨he, bel⟩ => ?_
  subst he
  exact ⟨_, rfl, _, _, _, [], _, [], hW', trodAll_mk1 (shut_bool Tryd.underlying4 _), (trodAll_cons_mk (Below.trod laidOut (by kernel_rfl) (of_decide_eq_true (by kernel_rfl)) g0 bel l0) (trodAll_cons_mk (Below.trod laidOut (by kernel_rfl) (of_decide_eq_true (by kernel_rfl)) g1 bel l1) trodAll_mk0)), rfl, bel.frame _, fun h => by cases h⟩

theorem reads (os : Os) {H : Type} (enc : TypeId × Value → H) : ∃ places, DataW.whole enc Tryd.prog ((World.doorLaid Tryd.prog 72 os).forCall (fun _ _ => 0) ⟨#[], #[.slice none 0 0, .slice none 0 0], []⟩).memory Tryd.f7.params.toList Rows.orderBytesSpec.vars false (#[.slice none 0 0, .slice none 0 0] : Array Value).toList 8 = some ([.nil, .nil], [], places) :=
  ⟨[], by kernel_rfl⟩

set_option maxRecDepth 100000 in
theorem lifted (os : Os) (started : os.Started) (H : Type) (enc : TypeId × Value → H) (F : Stop.Interp) :
    ReturnsInHanded {} Tryd.checked os 7 .any ((Rows.OpenSpec.upto Rows.orderBytesSpec).preRow enc Tryd.prog Tryd.f7 Rows.orderBytesUptoRow.domain false Rows.orderBytesUptoRow.laid) (((Rows.OpenSpec.upto Rows.orderBytesSpec).at F).post enc Tryd.prog Tryd.f7 false true false false) := by
  obtain ⟨places, hx⟩ := reads os enc
  refine returnsInHanded_of_row (C := Tryd.checked) (s := Rows.OpenSpec.upto Rows.orderBytesSpec) own started (by kernel_rfl) Tryd.func7
    (witness_row_atRef (enc := enc) (C := Tryd.checked) false (World.doorLaid Tryd.prog 72 os) #[.slice none 0 0, .slice none 0 0] rfl (by kernel_rfl) (by kernel_rfl) (by kernel_rfl)
      (OpenSpec.preRow_of_cond 8 hx (by kernel_rfl) (fun k hk => by cases hk; kernel_rfl) (by kernel_rfl) (door_met os _))) ?_
  intro W base args ds gs before hval hW _ hcond hsz hL _ _
  exact contract H enc W base args ds gs before hval hW  hL (hcond _ rfl)

theorem said : Rows.OrderBytesUptoSaid :=
  OpenClaim.holds_of_cond 7 Tryd.f7 rfl rfl rfl rfl rfl rfl rfl ⟨rfl, rfl, rfl, rfl, rfl⟩ rfl rfl rfl rfl rfl (by kernel_rfl) Tryd.func7 (by kernel_rfl)
    (of_decide_eq_true (by kernel_rfl)) (by unfold Func.isWrapper; first | (rw [if_pos (by decide +kernel)]; kernel_rfl) | (rw [if_neg (by decide +kernel)]; exact ⟨rfl, rfl⟩))
    (fun os started H enc _ F => by rw [OpenClaim.pre_eq_preRow]; exact lifted os started H enc F)

theorem plain (f : FuncId) (fn : Func) (hf : Tryd.pinned.checked.prog.funcNamed "lectern/lecternlaw07.OrderBytes" = some f) (hfn : Tryd.pinned.checked.prog.funcs[f]? = some fn) :
    true = Tryd.pinned.checked.prog.looks [] ∧ ∀ (j : Nat) t, fn.params[j]? = some t → Tryd.pinned.checked.prog.wantsStandIn t = false := by
  obtain rfl : f = 7 := Option.some.inj ((show Tryd.prog.funcNamed "lectern/lecternlaw07.OrderBytes" = some 7 by kernel_rfl).symm.trans hf) |>.symm
  obtain rfl : fn = Tryd.f7 := (Option.some.inj (Tryd.func7.symm.trans hfn)).symm
  refine ⟨by kernel_rfl, fun j t ht => ?_⟩
  rw [Tryd.params7] at ht
  obtain rfl : t = 56 := by simpa using Array.mem_of_getElem? ht
  exact (show Tryd.prog.wantsStandIn 56 = false by kernel_rfl)

/-- The tied card. -/
theorem card : Rows.OrderBytesUptoCardSaid :=
  Claim7.holds_tied_plain_at .later [] _ _ _ _ said (fun _ h => by cases h) (by kernel_rfl) (fun _ h => by cases h) orderBytesUpto_row_tie rfl ⟨rfl, rfl⟩ (by kernel_rfl) rfl plain (by kernel_rfl)
end Go.Proofs.YtfmholpbpghojaaDoor.lawOrderBytesUpto
