import Derived.Test.YtfmholpbpghojaaDoorOrdM
/-! Order: the law OrderKnown. (MADE BY PROGRAM: mk_known.py.) -/
namespace Go.Proofs.YtfmholpbpghojaaDoor
set_option linter.unusedVariables false
set_option linter.unusedSimpArgs false
open Go.RowKit Go.Lib
open Go.Proofs.YtfmholpbpghojaaDoor.ROrderBytes
open Go.Proofs.YtfmholpbpghojaaDoorW.PrintWords
attribute [local go_sem high] eqA49

theorem bad_true (k : Nat) (l : List UInt8) (h : keysL k [] l true = some ([], 1)) (w : World) :
    Calls Tryd.prog 30 #[.string (bs l)] w fun e w' => e = .returned (.bool true) ∧ Below w.heap.size w w' := by
  have HK := Lib.hid (keys_any k l w _ h)
  clear h
  go_enter Tryd.func30, Tryd.ntmps30
  go_wp2_with fail
  refine HK.out.mono ?_
  rintro e w1 ⟨⟨A, ⟨c, rfl⟩, hC⟩, b1⟩
  go_wp2_with fail
  go_ret
  exact ⟨rfl, b1⟩
/-- A new key is read. -/
theorem lit_key (W : World) (x : S49) : Kd.C k49 (W.alloc (.cells #[.int .i64 x.f0, .int .i64 x.f1, .string x.f2] 49)) (some ⟨W.heap.size, 0, none⟩) 1 [x] := by
  refine ⟨rfl, by omega, fun _ => ⟨_, rfl, fun j p hp => ?_⟩⟩
  have hj : j = 0 := by
    rcases j with _ | j
    · rfl
    · simp at hp
  subst hj
  simp at hp
  subst hp
  refine ⟨_, rfl, k49_mk _ x, fun i u hu => ?_⟩
  have hb := blk_cell (blk_new W (.cells #[.int .i64 x.f0, .int .i64 x.f1, .string x.f2] 49)) i
  have ha : ((⟨W.heap.size, 0, none⟩ : Addr).add (0 * k49.sz + i)) = ⟨W.heap.size, i, none⟩ := by
    simp [Addr.add]
    try exact fun h => h.symm
  rw [ha, hb]
  rw [← hu]
  rcases i with _ | _ | _ | i <;> rfl
theorem bytes_one (k : Nat) (x : S49) (r1 : ByteArray) (r2 : Int) (h : order_Bytes.f k [x] = some (r1, r2)) (W : World) :
    Calls Tryd.prog 28 #[.slice (some ⟨W.heap.size, 0, none⟩) 1 1] (W.alloc (.cells #[.int .i64 x.f0, .int .i64 x.f1, .string x.f2] 49)) fun e w' =>
      e = .returned (.tuple #[.string r1, .int .i64 r2]) ∧ Below W.heap.size W w' :=
  (order_Bytes.calls k _ _ [x] r1 r2 _ (lit_key W x) (Nat.le_refl _) h).mono fun _ _ ⟨he, hb⟩ => ⟨he, ((Below.refl _ W).alloc (Nat.le_refl _) _).trans (hb.mono (by simp))⟩
theorem right_any (x : S49) (r : Bool) (h : order_Right.f x.f0 x.f1 x.f2 = some r) (W : World) :
    Calls Tryd.prog 32 #[.agg #[.int .i64 x.f0, .int .i64 x.f1, .string x.f2]] W fun e w' => e = .returned (.bool r) ∧ Below W.heap.size W w' := order_Right.calls _ _ _ r W h

theorem kd0 (W : World) (hW : LayN W) : Calls Tryd.prog 25 #[.string (bs [45, 48, 46, 48, 55]), .int .i64 2, .int .i64 (-7)] W fun e w' => e = .returned (.bool true) ∧ Below W.heap.size W w' := by
  have h := okDec_any [45, 48, 46, 48, 55] 2 (-7) (by simp) W hW
  rwa [show okDec [45, 48, 46, 48, 55] 2 (-7) = true by decide +kernel] at h
theorem kd1 (W : World) (hW : LayN W) : Calls Tryd.prog 25 #[.string (bs [55]), .int .i64 0, .int .i64 (7)] W fun e w' => e = .returned (.bool true) ∧ Below W.heap.size W w' := by
  have h := okDec_any [55] 0 (7) (by simp) W hW
  rwa [show okDec [55] 0 (7) = true by decide +kernel] at h
theorem kd2 (W : World) (hW : LayN W) : Calls Tryd.prog 25 #[.string (bs [45, 48]), .int .i64 3, .int .i64 (0)] W fun e w' => e = .returned (.bool true) ∧ Below W.heap.size W w' := by
  have h := okDec_any [45, 48] 3 (0) (by simp) W hW
  rwa [show okDec [45, 48] 3 (0) = true by decide +kernel] at h
theorem kd3 (W : World) (hW : LayN W) : Calls Tryd.prog 25 #[.string (bs [57, 50, 50, 51, 51, 55, 50, 48, 51, 54, 56, 53, 52, 55, 55, 53, 56, 48, 55]), .int .i64 0, .int .i64 (9223372036854775807)] W fun e w' => e = .returned (.bool true) ∧ Below W.heap.size W w' := by
  have h := okDec_any [57, 50, 50, 51, 51, 55, 50, 48, 51, 54, 56, 53, 52, 55, 55, 53, 56, 48, 55] 0 (9223372036854775807) (by simp) W hW
  rwa [show okDec [57, 50, 50, 51, 51, 55, 50, 48, 51, 54, 56, 53, 52, 55, 55, 53, 56, 48, 55] 0 (9223372036854775807) = true by decide +kernel] at h
theorem kd4 (W : World) (hW : LayN W) : Calls Tryd.prog 25 #[.string (bs [45, 57, 50, 50, 51, 51, 55, 50, 48, 51, 54, 56, 53, 52, 55, 55, 53, 56, 48, 56]), .int .i64 0, .int .i64 (-9223372036854775808)] W fun e w' => e = .returned (.bool true) ∧ Below W.heap.size W w' := by
  have h := okDec_any [45, 57, 50, 50, 51, 51, 55, 50, 48, 51, 54, 56, 53, 52, 55, 55, 53, 56, 48, 56] 0 (-9223372036854775808) (by simp) W hW
  rwa [show okDec [45, 57, 50, 50, 51, 51, 55, 50, 48, 51, 54, 56, 53, 52, 55, 55, 53, 56, 48, 56] 0 (-9223372036854775808) = true by decide +kernel] at h
theorem kn0 (W : World) (hW : LayN W) : Calls Tryd.prog 26 #[.string (bs [49, 46, 50, 51, 52]), .int .i64 2] W fun e w' => e = .returned (.bool true) ∧ Below W.heap.size W w' := by
  have h := noDec_any [49, 46, 50, 51, 52] 2 (by simp) W hW
  rwa [show noDec [49, 46, 50, 51, 52] 2 = true by decide +kernel] at h
theorem kn1 (W : World) (hW : LayN W) : Calls Tryd.prog 26 #[.string (bs [46, 53]), .int .i64 2] W fun e w' => e = .returned (.bool true) ∧ Below W.heap.size W w' := by
  have h := noDec_any [46, 53] 2 (by simp) W hW
  rwa [show noDec [46, 53] 2 = true by decide +kernel] at h
theorem kn2 (W : World) (hW : LayN W) : Calls Tryd.prog 26 #[.string (bs [53, 46]), .int .i64 2] W fun e w' => e = .returned (.bool true) ∧ Below W.heap.size W w' := by
  have h := noDec_any [53, 46] 2 (by simp) W hW
  rwa [show noDec [53, 46] 2 = true by decide +kernel] at h
theorem kn3 (W : World) (hW : LayN W) : Calls Tryd.prog 26 #[.string (bs [55, 46, 48]), .int .i64 0] W fun e w' => e = .returned (.bool true) ∧ Below W.heap.size W w' := by
  have h := noDec_any [55, 46, 48] 0 (by simp) W hW
  rwa [show noDec [55, 46, 48] 0 = true by decide +kernel] at h
theorem kn4 (W : World) (hW : LayN W) : Calls Tryd.prog 26 #[.string (bs []), .int .i64 2] W fun e w' => e = .returned (.bool true) ∧ Below W.heap.size W w' := by
  have h := noDec_any [] 2 (by simp) W hW
  rwa [show noDec [] 2 = true by decide +kernel] at h
theorem kn5 (W : World) (hW : LayN W) : Calls Tryd.prog 26 #[.string (bs [57, 50, 50, 51, 51, 55, 50, 48, 51, 54, 56, 53, 52, 55, 55, 53, 56, 48, 56]), .int .i64 0] W fun e w' => e = .returned (.bool true) ∧ Below W.heap.size W w' := by
  have h := noDec_any [57, 50, 50, 51, 51, 55, 50, 48, 51, 54, 56, 53, 52, 55, 55, 53, 56, 48, 56] 0 (by simp) W hW
  rwa [show noDec [57, 50, 50, 51, 51, 55, 50, 48, 51, 54, 56, 53, 52, 55, 55, 53, 56, 48, 56] 0 = true by decide +kernel] at h
theorem kn6 (W : World) (hW : LayN W) : Calls Tryd.prog 26 #[.string (bs [57, 50, 50, 51, 51, 55, 50, 48, 51, 54, 56, 53, 52, 55, 55, 53, 56, 46, 48, 56]), .int .i64 2] W fun e w' => e = .returned (.bool true) ∧ Below W.heap.size W w' := by
  have h := noDec_any [57, 50, 50, 51, 51, 55, 50, 48, 51, 54, 56, 53, 52, 55, 55, 53, 56, 46, 48, 56] 2 (by simp) W hW
  rwa [show noDec [57, 50, 50, 51, 51, 55, 50, 48, 51, 54, 56, 53, 52, 55, 55, 53, 56, 46, 48, 56] 2 = true by decide +kernel] at h
theorem kn7 (W : World) (hW : LayN W) : Calls Tryd.prog 26 #[.string (bs [45]), .int .i64 0] W fun e w' => e = .returned (.bool true) ∧ Below W.heap.size W w' := by
  have h := noDec_any [45] 0 (by simp) W hW
  rwa [show noDec [45] 0 = true by decide +kernel] at h
theorem kn8 (W : World) (hW : LayN W) : Calls Tryd.prog 26 #[.string (bs [49, 32]), .int .i64 0] W fun e w' => e = .returned (.bool true) ∧ Below W.heap.size W w' := by
  have h := noDec_any [49, 32] 0 (by simp) W hW
  rwa [show noDec [49, 32] 0 = true by decide +kernel] at h
theorem kn9 (W : World) (hW : LayN W) : Calls Tryd.prog 26 #[.string (bs [48, 48, 48, 48, 48, 48, 48, 48, 48, 48, 48, 48, 48, 48, 48, 48, 48, 48, 48, 48]), .int .i64 0] W fun e w' => e = .returned (.bool true) ∧ Below W.heap.size W w' := by
  have h := noDec_any [48, 48, 48, 48, 48, 48, 48, 48, 48, 48, 48, 48, 48, 48, 48, 48, 48, 48, 48, 48] 0 (by simp) W hW
  rwa [show noDec [48, 48, 48, 48, 48, 48, 48, 48, 48, 48, 48, 48, 48, 48, 48, 48, 48, 48, 48, 48] 0 = true by decide +kernel] at h
theorem kn10 (W : World) (hW : LayN W) : Calls Tryd.prog 26 #[.string (bs [43, 49]), .int .i64 0] W fun e w' => e = .returned (.bool true) ∧ Below W.heap.size W w' := by
  have h := noDec_any [43, 49] 0 (by simp) W hW
  rwa [show noDec [43, 49] 0 = true by decide +kernel] at h
theorem kt0 (W : World) (hW : LayN W) : Calls Tryd.prog 27 #[.int .i64 (1250), .int .i64 2, .string (bs [49, 50, 46, 53, 48])] W fun e w' => e = .returned (.bool true) ∧ Below W.heap.size W w' := by
  have h := okText_any (1250) 2 (bs [49, 50, 46, 53, 48]) (by omega) (by omega) (by omega) (by omega) W hW
  rw [show textL (1250) 2 = [49, 50, 46, 53, 48] by simp [textL, decDigits, padL, pointL, mx]] at h
  simpa using h
theorem kt1 (W : World) (hW : LayN W) : Calls Tryd.prog 27 #[.int .i64 (7), .int .i64 0, .string (bs [55])] W fun e w' => e = .returned (.bool true) ∧ Below W.heap.size W w' := by
  have h := okText_any (7) 0 (bs [55]) (by omega) (by omega) (by omega) (by omega) W hW
  rw [show textL (7) 0 = [55] by simp [textL, decDigits, padL, pointL, mx]] at h
  simpa using h
theorem kt2 (W : World) (hW : LayN W) : Calls Tryd.prog 27 #[.int .i64 (-9223372036854775808), .int .i64 9, .string (bs [45, 57, 50, 50, 51, 51, 55, 50, 48, 51, 54, 46, 56, 53, 52, 55, 55, 53, 56, 48, 56])] W fun e w' => e = .returned (.bool true) ∧ Below W.heap.size W w' := by
  have h := okText_any (-9223372036854775808) 9 (bs [45, 57, 50, 50, 51, 51, 55, 50, 48, 51, 54, 46, 56, 53, 52, 55, 55, 53, 56, 48, 56]) (by omega) (by omega) (by omega) (by omega) W hW
  rw [show textL (-9223372036854775808) 9 = [45, 57, 50, 50, 51, 51, 55, 50, 48, 51, 54, 46, 56, 53, 52, 55, 55, 53, 56, 48, 56] by simp [textL, decDigits, padL, pointL, mx]] at h
  simpa using h
theorem kt3 (W : World) (hW : LayN W) : Calls Tryd.prog 27 #[.int .i64 (0), .int .i64 2, .string (bs [48, 46, 48, 48])] W fun e w' => e = .returned (.bool true) ∧ Below W.heap.size W w' := by
  have h := okText_any (0) 2 (bs [48, 46, 48, 48]) (by omega) (by omega) (by omega) (by omega) W hW
  rw [show textL (0) 2 = [48, 46, 48, 48] by simp [textL, decDigits, padL, pointL, mx]] at h
  simpa using h
theorem kx0 (W : World) (hW : LayN W) : Calls Tryd.prog 23 #[.string (bs [49]), .int .i64 10] W fun e w' => e = .returned (.tuple #[.int .i64 0, .int .i64 1]) ∧ Below W.heap.size W w' := by
  have h := decimal_arg [49] 10 (by omega) W
  rwa [show decL [49] 10 = (0, 1) by decide +kernel] at h
theorem kx1 (W : World) (hW : LayN W) : Calls Tryd.prog 21 #[.int .i64 1, .int .i64 (-1)] W fun e w' => e = .returned (.tuple #[.string ⟨#[]⟩, .int .i64 1]) ∧ Below W.heap.size W w' := text_bad 1 (-1) (by omega) W
theorem ky0 (W : World) : Calls Tryd.prog 28 #[.slice (some ⟨W.heap.size, 0, none⟩) 1 1] (W.alloc (.cells #[.int .i64 3, .int .i64 0, .string ⟨#[]⟩] 49)) fun e w' => e = .returned (.tuple #[.string ⟨#[]⟩, .int .i64 1]) ∧ Below W.heap.size W w' := bytes_one 50 ⟨3, 0, ⟨#[]⟩⟩ _ _ (by decide +kernel) W
theorem ky1 (W : World) : Calls Tryd.prog 28 #[.slice (some ⟨W.heap.size, 0, none⟩) 1 1] (W.alloc (.cells #[.int .i64 1, .int .i64 0, .string ⟨#[97]⟩] 49)) fun e w' => e = .returned (.tuple #[.string ⟨#[]⟩, .int .i64 1]) ∧ Below W.heap.size W w' := bytes_one 50 ⟨1, 0, ⟨#[97]⟩⟩ _ _ (by decide +kernel) W
theorem kc0 (W : World) (e : TypeId) : Calls Tryd.prog 31 #[.agg #[.int .i64 0, .int .i64 (0), .string ⟨#[]⟩], .slice (some ⟨W.heap.size, 0, none⟩) 1 1] (W.alloc (.cells #[.int .u8 0] e)) fun e w' => e = .returned (.bool true) ∧ Below W.heap.size W w' :=
  (lecternlaw07_bytes.calls 50 (0) (0) ⟨#[]⟩ _ _ [0] true _ (lit_reads W e [0] (by simp)) (Nat.le_refl _) (by decide +kernel)).mono fun _ _ ⟨he, hb⟩ => ⟨he, ((Below.refl _ W).alloc (Nat.le_refl _) _).trans (hb.mono (by simp))⟩
theorem kc1 (W : World) (e : TypeId) : Calls Tryd.prog 31 #[.agg #[.int .i64 1, .int .i64 (1), .string ⟨#[]⟩], .slice (some ⟨W.heap.size, 0, none⟩) 9 9] (W.alloc (.cells #[.int .u8 1, .int .u8 128, .int .u8 0, .int .u8 0, .int .u8 0, .int .u8 0, .int .u8 0, .int .u8 0, .int .u8 1] e)) fun e w' => e = .returned (.bool true) ∧ Below W.heap.size W w' :=
  (lecternlaw07_bytes.calls 50 (1) (1) ⟨#[]⟩ _ _ [1, 128, 0, 0, 0, 0, 0, 0, 1] true _ (lit_reads W e [1, 128, 0, 0, 0, 0, 0, 0, 1] (by simp)) (Nat.le_refl _) (by decide +kernel)).mono fun _ _ ⟨he, hb⟩ => ⟨he, ((Below.refl _ W).alloc (Nat.le_refl _) _).trans (hb.mono (by simp))⟩
theorem kc2 (W : World) (e : TypeId) : Calls Tryd.prog 31 #[.agg #[.int .i64 1, .int .i64 (-1), .string ⟨#[]⟩], .slice (some ⟨W.heap.size, 0, none⟩) 9 9] (W.alloc (.cells #[.int .u8 1, .int .u8 127, .int .u8 255, .int .u8 255, .int .u8 255, .int .u8 255, .int .u8 255, .int .u8 255, .int .u8 255] e)) fun e w' => e = .returned (.bool true) ∧ Below W.heap.size W w' :=
  (lecternlaw07_bytes.calls 50 (1) (-1) ⟨#[]⟩ _ _ [1, 127, 255, 255, 255, 255, 255, 255, 255] true _ (lit_reads W e [1, 127, 255, 255, 255, 255, 255, 255, 255] (by simp)) (Nat.le_refl _) (by decide +kernel)).mono fun _ _ ⟨he, hb⟩ => ⟨he, ((Below.refl _ W).alloc (Nat.le_refl _) _).trans (hb.mono (by simp))⟩

set_option maxHeartbeats 4000000 in
set_option maxRecDepth 100000 in
theorem orderKnown_walk (w : World) (hL : LayN w) : Calls Tryd.prog 6 #[] w fun e w' => e = .returned (.bool true) ∧ Below w.heap.size w w' := by
  have HL := Lib.hid hL
  clear hL
  have B0 := Lib.hid (Below.refl w.heap.size w)
  go_enter Tryd.func6, Tryd.ntmps6
  go_wp2_with fail
  refine (awake_any _ (HL.out.below B0.out)).mono ?_
  rintro e w1 ⟨rfl, b⟩
  have B1 := Lib.hid (below_next B0.out (Nat.le_refl _) b)
  clear b
  go_wp2_with fail
  refine (kd0 _ (HL.out.below B1.out)).mono ?_
  rintro e w2 ⟨rfl, b⟩
  have B2 := Lib.hid (below_next B1.out (Nat.le_refl _) b)
  clear b
  go_wp2_with fail
  refine (kd1 _ (HL.out.below B2.out)).mono ?_
  rintro e w3 ⟨rfl, b⟩
  have B3 := Lib.hid (below_next B2.out (Nat.le_refl _) b)
  clear b
  go_wp2_with fail
  refine (kd2 _ (HL.out.below B3.out)).mono ?_
  rintro e w4 ⟨rfl, b⟩
  have B4 := Lib.hid (below_next B3.out (Nat.le_refl _) b)
  clear b
  go_wp2_with fail
  refine (kd3 _ (HL.out.below B4.out)).mono ?_
  rintro e w5 ⟨rfl, b⟩
  have B5 := Lib.hid (below_next B4.out (Nat.le_refl _) b)
  clear b
  go_wp2_with fail
  refine (kd4 _ (HL.out.below B5.out)).mono ?_
  rintro e w6 ⟨rfl, b⟩
  have B6 := Lib.hid (below_next B5.out (Nat.le_refl _) b)
  clear b
  go_wp2_with fail
  refine (kn0 _ (HL.out.below B6.out)).mono ?_
  rintro e w7 ⟨rfl, b⟩
  have B7 := Lib.hid (below_next B6.out (Nat.le_refl _) b)
  clear b
  go_wp2_with fail
  refine (kn1 _ (HL.out.below B7.out)).mono ?_
  rintro e w8 ⟨rfl, b⟩
  have B8 := Lib.hid (below_next B7.out (Nat.le_refl _) b)
  clear b
  go_wp2_with fail
  refine (kn2 _ (HL.out.below B8.out)).mono ?_
  rintro e w9 ⟨rfl, b⟩
  have B9 := Lib.hid (below_next B8.out (Nat.le_refl _) b)
  clear b
  go_wp2_with fail
  refine (kn3 _ (HL.out.below B9.out)).mono ?_
  rintro e w10 ⟨rfl, b⟩
  have B10 := Lib.hid (below_next B9.out (Nat.le_refl _) b)
  clear b
  go_wp2_with fail
  refine (kn4 _ (HL.out.below B10.out)).mono ?_
  rintro e w11 ⟨rfl, b⟩
  have B11 := Lib.hid (below_next B10.out (Nat.le_refl _) b)
  clear b
  go_wp2_with fail
  refine (kn5 _ (HL.out.below B11.out)).mono ?_
  rintro e w12 ⟨rfl, b⟩
  have B12 := Lib.hid (below_next B11.out (Nat.le_refl _) b)
  clear b
  go_wp2_with fail
  refine (kn6 _ (HL.out.below B12.out)).mono ?_
  rintro e w13 ⟨rfl, b⟩
  have B13 := Lib.hid (below_next B12.out (Nat.le_refl _) b)
  clear b
  go_wp2_with fail
  refine (kn7 _ (HL.out.below B13.out)).mono ?_
  rintro e w14 ⟨rfl, b⟩
  have B14 := Lib.hid (below_next B13.out (Nat.le_refl _) b)
  clear b
  go_wp2_with fail
  refine (kn8 _ (HL.out.below B14.out)).mono ?_
  rintro e w15 ⟨rfl, b⟩
  have B15 := Lib.hid (below_next B14.out (Nat.le_refl _) b)
  clear b
  go_wp2_with fail
  refine (kn9 _ (HL.out.below B15.out)).mono ?_
  rintro e w16 ⟨rfl, b⟩
  have B16 := Lib.hid (below_next B15.out (Nat.le_refl _) b)
  clear b
  go_wp2_with fail
  refine (kn10 _ (HL.out.below B16.out)).mono ?_
  rintro e w17 ⟨rfl, b⟩
  have B17 := Lib.hid (below_next B16.out (Nat.le_refl _) b)
  clear b
  go_wp2_with fail
  refine (kt0 _ (HL.out.below B17.out)).mono ?_
  rintro e w18 ⟨rfl, b⟩
  have B18 := Lib.hid (below_next B17.out (Nat.le_refl _) b)
  clear b
  go_wp2_with fail
  refine (kt1 _ (HL.out.below B18.out)).mono ?_
  rintro e w19 ⟨rfl, b⟩
  have B19 := Lib.hid (below_next B18.out (Nat.le_refl _) b)
  clear b
  go_wp2_with fail
  refine (kt2 _ (HL.out.below B19.out)).mono ?_
  rintro e w20 ⟨rfl, b⟩
  have B20 := Lib.hid (below_next B19.out (Nat.le_refl _) b)
  clear b
  go_wp2_with fail
  refine (kt3 _ (HL.out.below B20.out)).mono ?_
  rintro e w21 ⟨rfl, b⟩
  have B21 := Lib.hid (below_next B20.out (Nat.le_refl _) b)
  clear b
  go_wp2_with fail
  refine (kx0 _ (HL.out.below B21.out)).mono ?_
  rintro e w22 ⟨rfl, b⟩
  have B22 := Lib.hid (below_next B21.out (Nat.le_refl _) b)
  clear b
  go_wp2_with fail
  refine (kx1 _ (HL.out.below B22.out)).mono ?_
  rintro e w23 ⟨rfl, b⟩
  have B23 := Lib.hid (below_next B22.out (Nat.le_refl _) b)
  clear b
  go_wp2_with fail
  refine (ky0 _ ).mono ?_
  rintro e w24 ⟨rfl, b⟩
  have B24 := Lib.hid (below_next B23.out (Nat.le_refl _) b)
  clear b
  go_wp2_with fail
  refine (ky1 _ ).mono ?_
  rintro e w25 ⟨rfl, b⟩
  have B25 := Lib.hid (below_next B24.out (Nat.le_refl _) b)
  clear b
  go_wp2_with fail
  refine (keys_any 20 [0, 0] _ ([⟨0, 0, ⟨#[]⟩⟩, ⟨0, 0, ⟨#[]⟩⟩], 0) (by rfl)).mono ?_
  rintro e w26 ⟨⟨A25, ⟨c25, rfl⟩, -⟩, b⟩
  have B26 := Lib.hid (below_next B25.out (Nat.le_refl _) b)
  clear b
  go_wp2_with fail
  refine (keys_any 20 [] _ ([], 0) (by rfl)).mono ?_
  rintro e w27 ⟨⟨A26, ⟨c26, rfl⟩, -⟩, b⟩
  have B27 := Lib.hid (below_next B26.out (Nat.le_refl _) b)
  clear b
  go_wp2_with fail
  refine (bad_true 20 [2, 97] (by rfl) _).mono ?_
  rintro e w28 ⟨rfl, b⟩
  have B28 := Lib.hid (below_next B27.out (Nat.le_refl _) b)
  clear b
  go_wp2_with fail
  refine (bad_true 20 [3] (by rfl) _).mono ?_
  rintro e w29 ⟨rfl, b⟩
  have B29 := Lib.hid (below_next B28.out (Nat.le_refl _) b)
  clear b
  go_wp2_with fail
  refine (bad_true 20 [1, 128] (by rfl) _).mono ?_
  rintro e w30 ⟨rfl, b⟩
  have B30 := Lib.hid (below_next B29.out (Nat.le_refl _) b)
  clear b
  go_wp2_with fail
  refine (bad_true 20 [2, 97, 0] (by rfl) _).mono ?_
  rintro e w31 ⟨rfl, b⟩
  have B31 := Lib.hid (below_next B30.out (Nat.le_refl _) b)
  clear b
  go_wp2_with fail
  refine (bad_true 20 [2, 97, 0, 2] (by rfl) _).mono ?_
  rintro e w32 ⟨rfl, b⟩
  have B32 := Lib.hid (below_next B31.out (Nat.le_refl _) b)
  clear b
  go_wp2_with fail
  refine (kc0 _ _).mono ?_
  rintro e w33 ⟨rfl, b⟩
  have B33 := Lib.hid (below_next B32.out (Nat.le_refl _) b)
  clear b
  go_wp2_with fail
  refine (kc1 _ _).mono ?_
  rintro e w34 ⟨rfl, b⟩
  have B34 := Lib.hid (below_next B33.out (Nat.le_refl _) b)
  clear b
  go_wp2_with fail
  refine (kc2 _ _).mono ?_
  rintro e w35 ⟨rfl, b⟩
  have B35 := Lib.hid (below_next B34.out (Nat.le_refl _) b)
  clear b
  go_wp2_with fail
  refine (right_any ⟨2, 1, ⟨#[]⟩⟩ false (by decide +kernel) _).mono ?_
  rintro e w36 ⟨rfl, b⟩
  have B36 := Lib.hid (below_next B35.out (Nat.le_refl _) b)
  clear b
  go_wp2_with fail
  refine (right_any ⟨2, 0, ⟨#[]⟩⟩ true (by decide +kernel) _).mono ?_
  rintro e w37 ⟨rfl, b⟩
  have B37 := Lib.hid (below_next B36.out (Nat.le_refl _) b)
  clear b
  go_wp2_with fail
  go_ret
  exact ⟨rfl, B37.out⟩
end Go.Proofs.YtfmholpbpghojaaDoor
