import Derived.Test.YtfmholpbpghojaaDoorSchC
import Derived.Test.YtfmholpbpghojaaDoorLentE
/-! What was lent is as it was: KeptInts, KeptInt64s. -/
namespace Go.Proofs.YtfmholpbpghojaaDoor
set_option linter.unusedVariables false
set_option linter.unusedSimpArgs false
open Go.RowKit Go.Lib
open Go.Proofs.YtfmholpbpghojaaDoor.RSchemaChecks
open Go.Proofs.YtfmholpbpghojaaDoorW.PrintWords

theorem ints_l0 (a b : List Int) (hl : a.length = b.length) (hz : a.length < 2 ^ 60) : ∀ (n i k : Nat), i + n = a.length → n + 1 ≤ k → lecternkit_Ints.l0 k a b (i : Int) = some (decide (a.drop i = b.drop i)) := by
  intro n
  induction n with
  | zero =>
    intro i k hi hk
    obtain ⟨k, rfl⟩ : ∃ j, k = j + 1 := ⟨k - 1, by omega⟩
    unfold lecternkit_Ints.l0
    rw [if_neg (by omega), List.drop_eq_nil_of_le (by omega), List.drop_eq_nil_of_le (by omega)]
    rfl
  | succ n ih =>
    intro i k hi hk
    obtain ⟨k, rfl⟩ : ∃ j, k = j + 1 := ⟨k - 1, by omega⟩
    have hw : wrap64 ((i : Int) + 1) = ((i + 1 : Nat) : Int) := by unfold wrap64; omega
    have ih' := ih (i + 1) k (by omega) (by omega)
    have ha : rd a (i : Int) = a.getD i 0 := by simp [rd]
    have hb : rd b (i : Int) = b.getD i 0 := by simp [rd]
    rw [dropI a i (by omega), dropI b i (by omega)]
    unfold lecternkit_Ints.l0
    rw [if_pos (by omega), if_pos (by omega), if_pos (by omega), ha, hb, hw, ih']
    by_cases h : a.getD i 0 = b.getD i 0
    · rw [if_pos h, h]
      simp
    · rw [if_neg h, decide_eq_false (fun e => h (List.cons.inj e).1)]
theorem ints_f (a b : List Int) (hz : a.length < 2 ^ 60) : lecternkit_Ints.f (a.length + 1) a b = some (decide (a = b)) := by
  unfold lecternkit_Ints.f
  by_cases hl : a.length = b.length
  · have := ints_l0 a b hl hz a.length 0 (a.length + 1) (by omega) (by omega)
    rw [if_pos (by omega)]
    rw [show ((0 : Nat) : Int) = 0 from rfl] at this
    rw [this]
    simp
  · rw [if_neg (by omega), decide_eq_false (fun e => hl (by rw [e]))]
theorem int64s_l0 (a b : List Int) (hl : a.length = b.length) (hz : a.length < 2 ^ 60) : ∀ (n i k : Nat), i + n = a.length → n + 1 ≤ k → lecternkit_Int64s.l0 k a b (i : Int) = some (decide (a.drop i = b.drop i)) := by
  intro n
  induction n with
  | zero =>
    intro i k hi hk
    obtain ⟨k, rfl⟩ : ∃ j, k = j + 1 := ⟨k - 1, by omega⟩
    unfold lecternkit_Int64s.l0
    rw [if_neg (by omega), List.drop_eq_nil_of_le (by omega), List.drop_eq_nil_of_le (by omega)]
    rfl
  | succ n ih =>
    intro i k hi hk
    obtain ⟨k, rfl⟩ : ∃ j, k = j + 1 := ⟨k - 1, by omega⟩
    have hw : wrap64 ((i : Int) + 1) = ((i + 1 : Nat) : Int) := by unfold wrap64; omega
    have ih' := ih (i + 1) k (by omega) (by omega)
    have ha : rd a (i : Int) = a.getD i 0 := by simp [rd]
    have hb : rd b (i : Int) = b.getD i 0 := by simp [rd]
    rw [dropI a i (by omega), dropI b i (by omega)]
    unfold lecternkit_Int64s.l0
    rw [if_pos (by omega), if_pos (by omega), if_pos (by omega), ha, hb, hw, ih']
    by_cases h : a.getD i 0 = b.getD i 0
    · rw [if_pos h, h]
      simp
    · rw [if_neg h, decide_eq_false (fun e => h (List.cons.inj e).1)]
theorem int64s_f (a b : List Int) (hz : a.length < 2 ^ 60) : lecternkit_Int64s.f (a.length + 1) a b = some (decide (a = b)) := by
  unfold lecternkit_Int64s.f
  by_cases hl : a.length = b.length
  · have := int64s_l0 a b hl hz a.length 0 (a.length + 1) (by omega) (by omega)
    rw [if_pos (by omega)]
    rw [show ((0 : Nat) : Int) = 0 from rfl] at this
    rw [this]
    simp
  · rw [if_neg (by omega), decide_eq_false (fun e => hl (by rw [e]))]
set_option maxRecDepth 100000 in
theorem keptInts_any (A B : Option Addr) (c c1 : Nat) (a b : List Int) (w : World) (ha : Kd.C (Kd.int .i64) w A (a ++ [-7171]).length (a ++ [-7171])) (hc : (a ++ [-7171]).length ≤ c) (hb : Kd.C (Kd.int .i64) w B b.length b) (hc1 : b.length ≤ c1) (hz : a.length < 2 ^ 60) :
    Calls Tryd.prog 46 #[.slice A a.length c, .slice B b.length c1] w fun e w' => e = .returned (.bool (decide (a = b))) ∧ Below w.heap.size w w' := by
  have hlen : (a ++ [-7171] : List Int).length = a.length + 1 := by simp
  have hA : Kd.C (Kd.int .i64) w A a.length a := by
    have h := Kd.C_take (m := a.length) ha (by omega)
    have e : (a ++ [-7171] : List Int).take a.length = a := by simp
    rwa [e] at h
  have hRd : ReadsInt w .i64 A (a ++ [-7171]).length (a ++ [-7171]) := by exact Kd.reads_of_C (enc := Value.int .i64) (d := (0 : Int)) (h1 := fun _ => rfl) ha
  obtain ⟨ad, eA, hx⟩ := hRd.at_ (a.length : Int) (by omega) (by omega)
  subst eA
  have hrd : rd (a ++ [-7171]) (a.length : Int) = -7171 := by simp [rd]
  rw [hrd, Int.toNat_natCast] at hx
  have HI := Lib.hid (fun W h1 h2 => lecternkit_Ints.calls (a.length + 1) (some ad) c a B c1 b _ W h1 (by omega) h2 hc1 (ints_f a b hz))
  have HA := Lib.hid hA
  have HB := Lib.hid hb
  have hcn : a.length + 1 ≤ c := by omega
  have hcn' : (a.length : Int) + 1 ≤ c := by omega
  obtain ⟨i0, hi0, _, hsz_, _⟩ := info_parts info_int
  have hlt := World.block_lt_of_cell? w _ hx
  clear ha hb hA hlen hc hi0 hsz_ hrd hRd
  generalize decide (a = b) = q at *
  go_enter Tryd.func46, Tryd.ntmps46
  go_wp2_with fail
  refine (HI.out _ HA.out HB.out).mono ?_
  rintro e w1 ⟨rfl, d1⟩
  have HB1 := Lib.hid d1.below
  replace hx := (d1.below.cell hlt).trans hx
  clear d1
  cases q with
  | false =>
    go_wp2_with fail
    go_ret
    exact ⟨rfl, HB1.out⟩
  | true =>
    go_wp2_with fail
    go_ret
    exact ⟨rfl, HB1.out⟩
set_option maxRecDepth 100000 in
theorem keptInt64s_any (A B : Option Addr) (c c1 : Nat) (a b : List Int) (w : World) (ha : Kd.C (Kd.int .i64) w A (a ++ [-7171]).length (a ++ [-7171])) (hc : (a ++ [-7171]).length ≤ c) (hb : Kd.C (Kd.int .i64) w B b.length b) (hc1 : b.length ≤ c1) (hz : a.length < 2 ^ 60) :
    Calls Tryd.prog 69 #[.slice A a.length c, .slice B b.length c1] w fun e w' => e = .returned (.bool (decide (a = b))) ∧ Below w.heap.size w w' := by
  have hlen : (a ++ [-7171] : List Int).length = a.length + 1 := by simp
  have hA : Kd.C (Kd.int .i64) w A a.length a := by
    have h := Kd.C_take (m := a.length) ha (by omega)
    have e : (a ++ [-7171] : List Int).take a.length = a := by simp
    rwa [e] at h
  have hRd : ReadsInt w .i64 A (a ++ [-7171]).length (a ++ [-7171]) := by exact Kd.reads_of_C (enc := Value.int .i64) (d := (0 : Int)) (h1 := fun _ => rfl) ha
  obtain ⟨ad, eA, hx⟩ := hRd.at_ (a.length : Int) (by omega) (by omega)
  subst eA
  have hrd : rd (a ++ [-7171]) (a.length : Int) = -7171 := by simp [rd]
  rw [hrd, Int.toNat_natCast] at hx
  have HI := Lib.hid (fun W h1 h2 => lecternkit_Int64s.calls (a.length + 1) (some ad) c a B c1 b _ W h1 (by omega) h2 hc1 (int64s_f a b hz))
  have HA := Lib.hid hA
  have HB := Lib.hid hb
  have hcn : a.length + 1 ≤ c := by omega
  have hcn' : (a.length : Int) + 1 ≤ c := by omega
  obtain ⟨i0, hi0, _, hsz_, _⟩ := info_parts info_int64
  have hlt := World.block_lt_of_cell? w _ hx
  clear ha hb hA hlen hc hi0 hsz_ hrd hRd
  generalize decide (a = b) = q at *
  go_enter Tryd.func69, Tryd.ntmps69
  go_wp2_with fail
  refine (HI.out _ HA.out HB.out).mono ?_
  rintro e w1 ⟨rfl, d1⟩
  have HB1 := Lib.hid d1.below
  replace hx := (d1.below.cell hlt).trans hx
  clear d1
  cases q with
  | false =>
    go_wp2_with fail
    go_ret
    exact ⟨rfl, HB1.out⟩
  | true =>
    go_wp2_with fail
    go_ret
    exact ⟨rfl, HB1.out⟩
end Go.Proofs.YtfmholpbpghojaaDoor
