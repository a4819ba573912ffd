import Derived.Test.YtfmholpbpghojaaDoorSchF
/-! Schema: Name. -/
namespace Go.Proofs.YtfmholpbpghojaaDoor
set_option linter.unusedVariables false
set_option linter.unusedSimpArgs false
open Go.RowKit Go.Lib
open Go.Proofs.YtfmholpbpghojaaDoor.RSchemaChecks
open Go.Proofs.YtfmholpbpghojaaDoorW.PrintWords

def okC (i : Nat) (c : UInt8) : Bool := (decide (97 ≤ (c.toNat : Int)) && decide ((c.toNat : Int) ≤ 122)) || ((c.toNat : Int) == 95) || ((decide (0 < (i : Int)) && decide (48 ≤ (c.toNat : Int))) && decide ((c.toNat : Int) ≤ 57))
def okL : Nat → List UInt8 → Bool
  | _, [] => true
  | i, c :: r => okC i c && okL (i + 1) r
def nameB (s : ByteArray) : Bool := okL 0 s.data.toList && (decide (1 ≤ (s.size : Int)) && decide ((s.size : Int) ≤ 24))
theorem dropG (l : List UInt8) (i : Nat) (h : i < l.length) : l.drop i = l.getD i 0 :: l.drop (i + 1) := by
  rw [List.drop_eq_getElem_cons h]
  simp [h]
set_option maxHeartbeats 4000000 in
set_option maxRecDepth 100000 in
theorem name_any (s : ByteArray) (w : World) (hz : s.size ≤ 9223372036854775807) :
    Calls Tryd.prog 14 #[.string s] w fun e w' => e = .returned (.bool (nameB s)) ∧ Below w.heap.size w w' := by
  have hcv := Lib.run_convert_string_bytes (P := Tryd.prog) w 9 72 5 s (u := .string) Tryd.underlying9 Tryd.underlying72 Tryd.underlying5
  have hb0 := bytes_below (Below.refl w.heap.size w) (Nat.le_refl _) 5 s
  have hrd := fun j hj => Lib.bytesWorld_cell w 5 s j hj
  obtain ⟨W0, hW0⟩ : ∃ W0, W0 = Lib.bytesWorld w 5 s := ⟨_, rfl⟩
  rw [← hW0] at hcv hb0
  have hrd' : ∀ j, j < s.size → W0.cell? ⟨w.heap.size, j, none⟩ = some (.int .u8 (s.data.toList.getD j 0).toNat) := by rw [hW0]; exact hrd
  clear hW0 hrd
  generalize grownCap w s.size 0 5 = cp at hcv
  have hls : s.data.toList.length = s.size := (size_eq s).symm
  have HB0 := Lib.hid hb0
  have HRD := Lib.hid hrd'
  unfold nameB
  obtain ⟨R, hR⟩ : ∃ R, R = okL 0 s.data.toList := ⟨_, rfl⟩
  have HR := Lib.hid (show okL 0 (s.data.toList.drop 0) = R from hR.symm)
  rw [← hR]
  clear hR hb0 hrd'
  go_enter Tryd.func14, Tryd.ntmps14
  go_wp2_with fail
  go_loopg [8] s.size (fun kq v8 w' => ∃ i : Nat, v8 = .int .i64 (i : Int) ∧ Hid (i + kq = s.size) ∧ Hid (okL i (s.data.toList.drop i) = R) ∧ Hid (w' = W0))
  case atStart => exact ⟨0, rfl, by show _ = _; omega, HR, rfl⟩
  case round =>
    obtain ⟨i, rfl, hi, hr, hw⟩ := hrel
    obtain rfl := hw.out
    have hi1 := hi.out
    have hni : (0 : Int) ≤ i := by omega
    cases gk with
    | zero =>
      have hi2 : i = s.size := by omega
      subst hi2
      have e0 := hr.out
      rw [List.drop_eq_nil_of_le (by omega)] at e0
      have e1 : R = true := e0.symm
      subst e1
      go_wp2_with fail
      all_goals
        go_ret
        exact ⟨ret1 (vbool (by first | (simp; done) | (simp; omega))), HB0.out⟩
    | succ k =>
      have hia : i < s.size := by omega
      have hia' : (i : Int) < s.size := by omega
      have hc := HRD.out i hia
      have e0 := hr.out
      rw [dropG _ i (by omega)] at e0
      unfold okL at e0
      generalize s.data.toList.getD i 0 = c at *
      cases hb : okC i c with
      | false =>
        rw [hb] at e0
        have e1 : R = false := e0.symm
        subst e1
        have HBC := Lib.hid hb
        clear hb e0
        go_wp2_with fail
        all_goals first
          | (go_ret; exact ⟨rfl, HB0.out⟩)
          | (exfalso; have h := HBC.out; simp only [okC, Bool.or_eq_false_iff, Bool.and_eq_false_iff, Bool.or_eq_true, Bool.and_eq_true, decide_eq_true_eq, decide_eq_false_iff_not, beq_iff_eq, beq_eq_false_iff_ne, ne_eq] at h; (try simp only [Bool.not_eq_false', Bool.not_eq_true', decide_eq_true_eq, decide_eq_false_iff_not, beq_iff_eq, beq_eq_false_iff_ne, ne_eq] at *); omega)
      | true =>
        rw [hb, Bool.true_and] at e0
        have HE := Lib.hid e0
        have HBC := Lib.hid hb
        clear hb e0
        go_wp2_with fail
        all_goals first
          | (go_roundg k; (case measure => omega); (case rel => exact ⟨i + 1, by go_num, by show i + 1 + k = s.size; omega, HE, rfl⟩))
          | (exfalso; have h := HBC.out; simp only [okC, Bool.or_eq_false_iff, Bool.and_eq_false_iff, Bool.or_eq_true, Bool.and_eq_true, decide_eq_true_eq, decide_eq_false_iff_not, beq_iff_eq, beq_eq_false_iff_ne, ne_eq] at h; (try simp only [Bool.not_eq_false', Bool.not_eq_true', decide_eq_true_eq, decide_eq_false_iff_not, beq_iff_eq, beq_eq_false_iff_ne, ne_eq] at *); omega)
end Go.Proofs.YtfmholpbpghojaaDoor
