import Derived.Test.YtfmholpbpghojaaDoorOrdC
/-! Order: awake; the law OrderOrder. -/
namespace Go.Proofs.YtfmholpbpghojaaDoor
set_option linter.unusedVariables false
set_option linter.unusedSimpArgs false
open Go.RowKit Go.Lib
open Go.Proofs.YtfmholpbpghojaaDoor.ROrderBytes
open Go.Proofs.YtfmholpbpghojaaDoorW.PrintWords
attribute [local go_sem high] eqA49

theorem aw1 : okDec [49, 50, 46, 53] 2 1250 = true := by decide +kernel
theorem aw2 : noDec [48, 49] 2 = true := by decide +kernel
theorem aw3 : textL (-7) 2 = [45, 48, 46, 48, 55] := by
  simp [textL, decDigits, padL, pointL, mx]
theorem aw4 : lecternlaw07_bytes.f 50 2 0 ⟨#[97, 0]⟩ [2, 97, 0, 255, 0, 1] = some true := by decide +kernel
theorem aw5 : cmpK ⟨0, 0, ⟨#[]⟩⟩ ⟨1, 0, ⟨#[]⟩⟩ = -1 := by decide +kernel
/-- A new row of bytes is read. -/
theorem lit_reads (W : World) (e : TypeId) (xs : List Int) (hm : xs.length ≤ 9223372036854775807) :
    Kd.C (Kd.int .u8) (W.alloc (.cells (nums .u8 xs).toArray e)) (some ⟨W.heap.size, 0, none⟩) xs.length xs :=
  Kd.C_of_reads (d := (0 : Int)) (h1 := fun _ => rfl) (own_reads' (own_lit W W.heap.size e .u8 xs (Nat.le_refl _) hm))
theorem law_bytes (k : Int) (t : ByteArray) (xs : List Int) (hm : xs.length ≤ 1000) (h : lecternlaw07_bytes.f 50 k 0 t xs = some true) (W : World) (e : TypeId) :
    Calls Tryd.prog 31 #[.agg #[.int .i64 k, .int .i64 0, .string t], .slice (some ⟨W.heap.size, 0, none⟩) xs.length xs.length] (W.alloc (.cells (nums .u8 xs).toArray e)) fun e w' =>
      e = .returned (.bool true) ∧ Below W.heap.size W w' :=
  (lecternlaw07_bytes.calls 50 k 0 t _ _ xs true _ (lit_reads W e xs (by omega)) (Nat.le_refl _) h).mono fun _ _ ⟨he, hb⟩ => ⟨he, ((Below.refl _ W).alloc (Nat.le_refl _) _).trans (hb.mono (by simp))⟩

set_option maxHeartbeats 400000 in
theorem awake_any (w : World) (hL : LayN w) : Calls Tryd.prog 22 #[] w fun e w' => e = .returned (.bool true) ∧ Below w.heap.size w w' := by
  have H1 := Lib.hid (okDec_any [49, 50, 46, 53] 2 1250 (by simp) w hL)
  have H2 := Lib.hid (fun W hW => noDec_any [48, 49] 2 (by simp) W hW)
  have H3 := Lib.hid (fun W hW => okText_any (-7) 2 ⟨#[45, 48, 46, 48, 55]⟩ (by omega) (by omega) (by omega) (by omega) W hW)
  rw [aw1] at H1
  rw [aw2] at H2
  rw [aw3] at H3
  have H4 := Lib.hid (law_bytes 2 ⟨#[97, 0]⟩ [2, 97, 0, 255, 0, 1] (by simp) aw4)
  have H5 := Lib.hid (fun W => compare_any ⟨0, 0, ⟨#[]⟩⟩ ⟨1, 0, ⟨#[]⟩⟩ W)
  rw [aw5] at H5
  have HL := Lib.hid hL
  clear hL
  go_enter Tryd.func22, Tryd.ntmps22
  go_wp2_with fail
  refine H1.out.mono ?_
  rintro e w1 ⟨rfl, b1⟩
  go_wp2_with fail
  refine (H2.out _ (HL.out.below b1)).mono ?_
  rintro e w2 ⟨rfl, b2⟩
  have b12 := below_next b1 (Nat.le_refl _) b2
  go_wp2_with fail
  refine (H3.out _ (HL.out.below b12)).mono ?_
  rintro e w3 ⟨rfl, b3⟩
  have b13 := below_next b12 (Nat.le_refl _) b3
  have e3 : ((bs [45, 48, 46, 48, 55]).toList == (⟨#[45, 48, 46, 48, 55]⟩ : ByteArray).toList) = true := by decide +kernel
  rw [e3]
  go_wp2_with fail
  refine (H4.out _ _).mono ?_
  rintro e w4 ⟨rfl, b4⟩
  have b14 := below_next b13 (Nat.le_refl _) b4
  go_wp2_with fail
  refine (H5.out _).mono ?_
  rintro e w5 ⟨rfl, b5⟩
  go_wp2_with fail
  go_ret
  exact ⟨rfl, below_next b14 (Nat.le_refl _) b5⟩

set_option maxHeartbeats 800000 in
set_option maxRecDepth 100000 in
theorem orderOrder_walk (a b c : Key) (w : World) (hL : LayN w) : Calls Tryd.prog 5 #[a.v, b.v, c.v] w fun e w' => e = .returned (.bool true) ∧ Below w.heap.size w w' := by
  have HL := Lib.hid hL
  have H1 := Lib.hid (fun W => compare_any a b W)
  have H2 := Lib.hid (fun W => compare_any b c W)
  have H3 := Lib.hid (fun W => compare_any a c W)
  have H4 := Lib.hid (fun W => compare_any b a W)
  have H5 := Lib.hid (fun W => compare_any a a W)
  have HA := Lib.hid (fun W hW => awake_any W hW)
  obtain ⟨l1, l2, l3⟩ := order_law a b c
  have hz := cmpK_zero a b
  have hr := cmpK_range a b
  have ha := cmpK_anti a b
  rw [cmpK_self] at H5
  unfold eqK at hz
  generalize cmpK a b = x at *
  generalize cmpK b c = y at *
  generalize cmpK a c = z at *
  generalize cmpK b a = u at *
  unfold Key.v
  have hu := Tryd.underlying49
  have e1 : (x != -u) = false := by rw [bne_eq_false_iff_eq]; exact ha
  obtain ⟨ak, an, at_⟩ := a
  obtain ⟨bk, bn, bt_⟩ := b
  obtain ⟨ck, cn, ct_⟩ := c
  dsimp only at *
  have HLL := Lib.hid (And.intro l1 (And.intro l2 l3))
  clear hL e1 l1 l2 l3
  rcases (show x = -1 ∨ x = 0 ∨ x = 1 by omega) with rfl | rfl | rfl
  · obtain rfl : u = 1 := by omega
    have hz' : (ak == bk && (an == bn && at_.toList == bt_.toList)) = false := hz.symm
    clear hz ha hr
    go_enter Tryd.func5, Tryd.ntmps5
    go_wp2_with fail
    refine (H1.out _).mono ?_
    rintro e w1 ⟨rfl, b1⟩
    obtain ⟨c1, f1⟩ := bcell b1
    have s1 : w.heap.size + 2 < w1.heap.size := by have := b1.size; simp at this; omega
    have p1 : w.heap.size < w1.heap.size := by omega
    have q1 : w.heap.size + 1 < w1.heap.size := by omega
    have r1 : w.heap.size + 1 + 1 < w1.heap.size := by omega
    have B1 : Below w.heap.size w w1 := (((Below.refl _ w).alloc (Nat.le_refl _) _).alloc (by simp) _ |>.alloc (by simp; omega) _).trans (b1.mono (by simp; omega))
    have HB1 := Lib.hid B1
    clear b1 B1
    go_wp2_with fail
    refine (H2.out _).mono ?_
    rintro e w2 ⟨rfl, b2⟩
    obtain ⟨c2, f2⟩ := bcell b2
    have s2 : w.heap.size + 2 < w2.heap.size := by have := b2.size; omega
    have p2 : w.heap.size < w2.heap.size := by omega
    have q2 : w.heap.size + 1 < w2.heap.size := by omega
    have r2 : w.heap.size + 1 + 1 < w2.heap.size := by omega
    have HB2 := Lib.hid (below_next HB1.out (Nat.le_refl _) b2)
    clear b2
    go_wp2_with fail
    refine (H3.out _).mono ?_
    rintro e w3 ⟨rfl, b3⟩
    obtain ⟨c3, f3⟩ := bcell b3
    have s3 : w.heap.size + 2 < w3.heap.size := by have := b3.size; omega
    have p3 : w.heap.size < w3.heap.size := by omega
    have q3 : w.heap.size + 1 < w3.heap.size := by omega
    have r3 : w.heap.size + 1 + 1 < w3.heap.size := by omega
    have HB3 := Lib.hid (below_next HB2.out (Nat.le_refl _) b3)
    clear b3
    go_wp2_with fail
    refine (H4.out _).mono ?_
    rintro e w4 ⟨rfl, b4⟩
    obtain ⟨c4, f4⟩ := bcell b4
    have s4 : w.heap.size + 2 < w4.heap.size := by have := b4.size; omega
    have p4 : w.heap.size < w4.heap.size := by omega
    have q4 : w.heap.size + 1 < w4.heap.size := by omega
    have r4 : w.heap.size + 1 + 1 < w4.heap.size := by omega
    have HB4 := Lib.hid (below_next HB3.out (Nat.le_refl _) b4)
    clear b4
    go_wp2_with fail
    all_goals
      refine (H5.out _).mono ?_
      rintro e w5 ⟨rfl, b5⟩
      obtain ⟨c5, f5⟩ := bcell b5
      have p5 : w.heap.size < w5.heap.size := by have := b5.size; omega
      have q5 : w.heap.size + 1 < w5.heap.size := by have := b5.size; omega
      have HB5 := Lib.hid (below_next HB4.out (Nat.le_refl _) b5)
      clear b5
      go_wp2_with fail
    all_goals first
      | (exfalso; have hh := HLL.out; omega)
      | (refine (HA.out _ (HL.out.below HB5.out)).mono ?_; rintro e w6 ⟨rfl, b6⟩; go_wp2_with fail; go_ret; exact ⟨ret1 (vbool (by first | rfl | (have hh := HLL.out; simp only [Bool.and_eq_true, Bool.or_eq_true, decide_eq_true_eq]; omega))), below_next HB5.out (Nat.le_refl _) b6⟩)
  · obtain rfl : u = 0 := by omega
    have hz' : (ak == bk && (an == bn && at_.toList == bt_.toList)) = true := hz.symm
    clear hz ha hr
    go_enter Tryd.func5, Tryd.ntmps5
    go_wp2_with fail
    refine (H1.out _).mono ?_
    rintro e w1 ⟨rfl, b1⟩
    obtain ⟨c1, f1⟩ := bcell b1
    have s1 : w.heap.size + 2 < w1.heap.size := by have := b1.size; simp at this; omega
    have p1 : w.heap.size < w1.heap.size := by omega
    have q1 : w.heap.size + 1 < w1.heap.size := by omega
    have r1 : w.heap.size + 1 + 1 < w1.heap.size := by omega
    have B1 : Below w.heap.size w w1 := (((Below.refl _ w).alloc (Nat.le_refl _) _).alloc (by simp) _ |>.alloc (by simp; omega) _).trans (b1.mono (by simp; omega))
    have HB1 := Lib.hid B1
    clear b1 B1
    go_wp2_with fail
    refine (H2.out _).mono ?_
    rintro e w2 ⟨rfl, b2⟩
    obtain ⟨c2, f2⟩ := bcell b2
    have s2 : w.heap.size + 2 < w2.heap.size := by have := b2.size; omega
    have p2 : w.heap.size < w2.heap.size := by omega
    have q2 : w.heap.size + 1 < w2.heap.size := by omega
    have r2 : w.heap.size + 1 + 1 < w2.heap.size := by omega
    have HB2 := Lib.hid (below_next HB1.out (Nat.le_refl _) b2)
    clear b2
    go_wp2_with fail
    refine (H3.out _).mono ?_
    rintro e w3 ⟨rfl, b3⟩
    obtain ⟨c3, f3⟩ := bcell b3
    have s3 : w.heap.size + 2 < w3.heap.size := by have := b3.size; omega
    have p3 : w.heap.size < w3.heap.size := by omega
    have q3 : w.heap.size + 1 < w3.heap.size := by omega
    have r3 : w.heap.size + 1 + 1 < w3.heap.size := by omega
    have HB3 := Lib.hid (below_next HB2.out (Nat.le_refl _) b3)
    clear b3
    go_wp2_with fail
    refine (H4.out _).mono ?_
    rintro e w4 ⟨rfl, b4⟩
    obtain ⟨c4, f4⟩ := bcell b4
    have s4 : w.heap.size + 2 < w4.heap.size := by have := b4.size; omega
    have p4 : w.heap.size < w4.heap.size := by omega
    have q4 : w.heap.size + 1 < w4.heap.size := by omega
    have r4 : w.heap.size + 1 + 1 < w4.heap.size := by omega
    have HB4 := Lib.hid (below_next HB3.out (Nat.le_refl _) b4)
    clear b4
    go_wp2_with fail
    all_goals
      refine (H5.out _).mono ?_
      rintro e w5 ⟨rfl, b5⟩
      obtain ⟨c5, f5⟩ := bcell b5
      have p5 : w.heap.size < w5.heap.size := by have := b5.size; omega
      have q5 : w.heap.size + 1 < w5.heap.size := by have := b5.size; omega
      have HB5 := Lib.hid (below_next HB4.out (Nat.le_refl _) b5)
      clear b5
      go_wp2_with fail
    all_goals first
      | (exfalso; have hh := HLL.out; omega)
      | (refine (HA.out _ (HL.out.below HB5.out)).mono ?_; rintro e w6 ⟨rfl, b6⟩; go_wp2_with fail; go_ret; exact ⟨ret1 (vbool (by first | rfl | (have hh := HLL.out; simp only [Bool.and_eq_true, Bool.or_eq_true, decide_eq_true_eq]; omega))), below_next HB5.out (Nat.le_refl _) b6⟩)
  · obtain rfl : u = -1 := by omega
    have hz' : (ak == bk && (an == bn && at_.toList == bt_.toList)) = false := hz.symm
    clear hz ha hr
    go_enter Tryd.func5, Tryd.ntmps5
    go_wp2_with fail
    refine (H1.out _).mono ?_
    rintro e w1 ⟨rfl, b1⟩
    obtain ⟨c1, f1⟩ := bcell b1
    have s1 : w.heap.size + 2 < w1.heap.size := by have := b1.size; simp at this; omega
    have p1 : w.heap.size < w1.heap.size := by omega
    have q1 : w.heap.size + 1 < w1.heap.size := by omega
    have r1 : w.heap.size + 1 + 1 < w1.heap.size := by omega
    have B1 : Below w.heap.size w w1 := (((Below.refl _ w).alloc (Nat.le_refl _) _).alloc (by simp) _ |>.alloc (by simp; omega) _).trans (b1.mono (by simp; omega))
    have HB1 := Lib.hid B1
    clear b1 B1
    go_wp2_with fail
    refine (H2.out _).mono ?_
    rintro e w2 ⟨rfl, b2⟩
    obtain ⟨c2, f2⟩ := bcell b2
    have s2 : w.heap.size + 2 < w2.heap.size := by have := b2.size; omega
    have p2 : w.heap.size < w2.heap.size := by omega
    have q2 : w.heap.size + 1 < w2.heap.size := by omega
    have r2 : w.heap.size + 1 + 1 < w2.heap.size := by omega
    have HB2 := Lib.hid (below_next HB1.out (Nat.le_refl _) b2)
    clear b2
    go_wp2_with fail
    refine (H3.out _).mono ?_
    rintro e w3 ⟨rfl, b3⟩
    obtain ⟨c3, f3⟩ := bcell b3
    have s3 : w.heap.size + 2 < w3.heap.size := by have := b3.size; omega
    have p3 : w.heap.size < w3.heap.size := by omega
    have q3 : w.heap.size + 1 < w3.heap.size := by omega
    have r3 : w.heap.size + 1 + 1 < w3.heap.size := by omega
    have HB3 := Lib.hid (below_next HB2.out (Nat.le_refl _) b3)
    clear b3
    go_wp2_with fail
    refine (H4.out _).mono ?_
    rintro e w4 ⟨rfl, b4⟩
    obtain ⟨c4, f4⟩ := bcell b4
    have s4 : w.heap.size + 2 < w4.heap.size := by have := b4.size; omega
    have p4 : w.heap.size < w4.heap.size := by omega
    have q4 : w.heap.size + 1 < w4.heap.size := by omega
    have r4 : w.heap.size + 1 + 1 < w4.heap.size := by omega
    have HB4 := Lib.hid (below_next HB3.out (Nat.le_refl _) b4)
    clear b4
    go_wp2_with fail
    all_goals
      refine (H5.out _).mono ?_
      rintro e w5 ⟨rfl, b5⟩
      obtain ⟨c5, f5⟩ := bcell b5
      have p5 : w.heap.size < w5.heap.size := by have := b5.size; omega
      have q5 : w.heap.size + 1 < w5.heap.size := by have := b5.size; omega
      have HB5 := Lib.hid (below_next HB4.out (Nat.le_refl _) b5)
      clear b5
      go_wp2_with fail
    all_goals first
      | (exfalso; have hh := HLL.out; omega)
      | (refine (HA.out _ (HL.out.below HB5.out)).mono ?_; rintro e w6 ⟨rfl, b6⟩; go_wp2_with fail; go_ret; exact ⟨ret1 (vbool (by first | rfl | (have hh := HLL.out; simp only [Bool.and_eq_true, Bool.or_eq_true, decide_eq_true_eq]; omega))), below_next HB5.out (Nat.le_refl _) b6⟩)
end Go.Proofs.YtfmholpbpghojaaDoor
