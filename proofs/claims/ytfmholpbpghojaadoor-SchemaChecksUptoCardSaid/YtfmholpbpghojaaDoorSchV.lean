import Derived.Test.YtfmholpbpghojaaDoorSchU
/-! KeptEntries, KeptDoc on what was lent. -/
namespace Go.Proofs.YtfmholpbpghojaaDoor
set_option linter.unusedVariables false
set_option linter.unusedSimpArgs false
open Go.RowKit Go.Lib
open Go.Proofs.YtfmholpbpghojaaDoor.RSchemaChecks
open Go.Proofs.YtfmholpbpghojaaDoorW.PrintWords

theorem int64s_more (a : List Int) (hz : a.length < 2 ^ 60) (k : Nat) (h : a.length + 1 ≤ k) : lecternkit_Int64s.f k a a = some true :=
  at_rounds (fun k => lecternkit_Int64s.mono a a k) h (by rw [int64s_f a a hz, decide_eq_true rfl])
theorem entries_l0 (l : List S75) (hz : ∀ x ∈ l, x.f2.length < 2 ^ 60) (hl : l.length < 2 ^ 60) : ∀ (n i : Nat), i + n = l.length → ∃ K, ∀ k, K ≤ k → lecternkit_Entries.l0 k l l (i : Int) = some true := by
  intro n
  induction n with
  | zero =>
    intro i hi
    refine ⟨1, fun k hk => ?_⟩
    obtain ⟨k, rfl⟩ : ∃ j, k = j + 1 := ⟨k - 1, by omega⟩
    unfold lecternkit_Entries.l0
    rw [if_neg (by omega)]
  | succ n ih =>
    intro i hi
    obtain ⟨K, hK⟩ := ih (i + 1) (by omega)
    refine ⟨K + (rd_T75 l (i : Int)).f2.length + 2, fun k hk => ?_⟩
    obtain ⟨k, rfl⟩ : ∃ j, k = j + 1 := ⟨k - 1, by omega⟩
    have hw : wrap64 ((i : Int) + 1) = ((i + 1 : Nat) : Int) := by unfold wrap64; omega
    have hmem := rd_memEntry l i (by omega)
    unfold lecternkit_Entries.l0
    rw [if_pos (by omega), if_pos (by omega), if_pos (by omega), if_pos rfl, if_pos rfl, int64s_more _ (hz _ hmem) k (by omega)]
    simp only [Option.bind_some]
    rw [if_pos trivial, hw, hK k (by omega)]
theorem entries_same (l : List S75) (hz : ∀ x ∈ l, x.f2.length < 2 ^ 60) (hl : l.length < 2 ^ 60) : ∃ k, lecternkit_Entries.f k l l = some true := by
  obtain ⟨K, hK⟩ := entries_l0 l hz hl l.length 0 (by omega)
  refine ⟨K, ?_⟩
  unfold lecternkit_Entries.f
  rw [if_pos rfl]
  exact hK K (Nat.le_refl _)
/-- A lent entry: where its numbers lie, with the mark behind them. -/
theorem lentry_at {w : World} {A : Option Addr} {l : List S75} (h : Kd.C kLEntry w A (l.map toLEntry ++ [markLEntry]).length (l.map toLEntry ++ [markLEntry])) (i : Nat) (hi : i < l.length) :
    ∃ (ad : Addr) (A2 : Option Addr) (c2 : Nat), A = some ad ∧ w.cell? ⟨(ad.add (i * 3)).block, (ad.add (i * 3)).off + 2, none⟩ = some (.slice A2 (rd_T75 l (i : Int)).f2.length c2) ∧ ((rd_T75 l (i : Int)).f2 ++ [-7171]).length ≤ c2 ∧ Kd.C (Kd.int .i64) w A2 ((rd_T75 l (i : Int)).f2 ++ [-7171]).length ((rd_T75 l (i : Int)).f2 ++ [-7171]) := by
  obtain ⟨ad, e, hc⟩ := h.2.2 (by simp)
  obtain ⟨cs, h1, h2, h3⟩ := hc i (toLEntry (rd_T75 l (i : Int))) (by rw [List.getElem?_append_left (by simpa using hi), List.getElem?_map]; simp [rd_T75, hi])
  obtain ⟨_, _, rfl, rfl, ⟨_, _, rfl, rfl, ⟨A2, c2, rfl, l2, g2⟩⟩⟩ := h2
  exact ⟨ad, A2, c2, e, by rw [← add_field ad (i * 3) 2 (by omega)]; exact h3 2 _ rfl, l2, g2⟩
/-- The mark behind lent entries. -/
theorem lentry_mark {w : World} {A : Option Addr} {l : List S75} (h : Kd.C kLEntry w A (l.map toLEntry ++ [markLEntry]).length (l.map toLEntry ++ [markLEntry])) :
    ∃ ad : Addr, A = some ad ∧ w.cell? (ad.add (l.length * 3)) = some (.string ⟨#[109, 97, 114, 107]⟩) := by
  obtain ⟨ad, e, hc⟩ := h.2.2 (by simp)
  obtain ⟨cs, h1, h2, h3⟩ := hc l.length markLEntry (by rw [List.getElem?_append_right (by simp)]; simp)
  obtain ⟨_, _, rfl, rfl, ⟨_, _, rfl, rfl, ⟨A2, c2, rfl, l2, g2⟩⟩⟩ := h2
  exact ⟨ad, e, h3 0 _ rfl⟩
set_option maxHeartbeats 4000000 in
set_option maxRecDepth 100000 in
theorem keptEntries_any (l : List S75) (A B : Option Addr) (ca cb : Nat) (w : World) (ha : (kview 75 kLEntry).K w (l.map toLEntry, [markLEntry]) [.slice A l.length ca]) (hb : Kd.C k75 w B l.length l) (hcb : l.length ≤ cb) (hz : ∀ x ∈ l, x.f2.length < 2 ^ 60) (hzl : l.length < 2 ^ 60) :
    Calls Tryd.prog 47 #[.slice A l.length ca, .slice B l.length cb] w fun e w' => e = .returned (.bool true) ∧ Below w.heap.size w w' := by
  obtain ⟨A', c', ev, hlc, hC⟩ := ha
  simp at ev
  obtain ⟨rfl, rfl⟩ := ev
  have hA := lent_C (d' := k75) toLEntry rfl (fun w x cs h => kLEntry_K h) hC
  have hca : l.length ≤ ca := by simp at hlc; omega
  have HK := Lib.hid (fun W h1 h2 => lecternkit_Entries.calls (entries_same l hz hzl).choose A ca l B cb l true W h1 hca h2 hcb (entries_same l hz hzl).choose_spec)
  have HA := Lib.hid hA
  have HB := Lib.hid hb
  have HC := Lib.hid hC
  have HZ := Lib.hid hz
  obtain ⟨ad, eA0, hmk⟩ := lentry_mark hC
  subst eA0
  have hzz : l.length ≤ 9223372036854775807 := hA.2.1
  have hcn : l.length + 1 ≤ ca := by simpa using hlc
  have hcn' : (l.length : Int) + 1 ≤ ca := by omega
  have hadm : (ad.add (l.length * 3)).block < w.heap.size := World.block_lt_of_cell? w _ hmk
  clear hA hC hb hz hlc hca
  go_enter Tryd.func47, Tryd.ntmps47
  go_wp2_with fail
  refine (HK.out _ HA.out HB.out).mono ?_
  rintro e W1 ⟨rfl, b1⟩
  have HB0 := Lib.hid b1
  clear b1
  go_wp2_with fail
  go_loopg [5] l.length (fun kq v5 w' => ∃ i : Nat, v5 = .int .i64 (i : Int) ∧ Hid (i + kq = l.length) ∧ Hid (Below W1.heap.size W1 w'))
  case atStart => exact ⟨0, rfl, by show _ = _; omega, Below.refl _ _⟩
  case round =>
    obtain ⟨i, rfl, hi, hbl⟩ := hrel
    have hi1 := hi.out
    have hni : (0 : Int) ≤ i := by omega
    have hbw : Below w.heap.size w wr := HB0.out.trans (hbl.out.mono HB0.out.size)
    have HBW := Lib.hid hbw
    cases gk with
    | zero =>
      have hi2 : i = l.length := by omega
      subst hi2
      have hmk' := (HBW.out.cell (World.block_lt_of_cell? w _ hmk)).trans hmk
      go_wp2_with fail
      go_ret
      exact ⟨rfl, HBW.out⟩
    | succ k =>
      have hia : i < l.length := by omega
      have hia' : (i : Int) < l.length := by omega
      obtain ⟨ad', A2, c2, eA, hx2, hl2, hi2⟩ := lentry_at HC.out i hia
      obtain rfl : ad = ad' := Option.some.inj eA
      obtain ⟨bd, B2, d2, eB, hy0, hy1, hy2, hm2, hj2⟩ := at_T75 HB.out i hni hia'
      subst eB
      rw [Int.toNat_natCast] at hy2
      clear hy0 hy1 eA
      have hadl : (ad.add (i * 3)).block < wr.heap.size := Nat.lt_of_lt_of_le (show (ad.add (i * 3)).block < w.heap.size from World.block_lt_of_cell? w ⟨(ad.add (i * 3)).block, (ad.add (i * 3)).off + 2, none⟩ hx2) hbw.size
      have hbdl : (bd.add (i * 3)).block < wr.heap.size := Nat.lt_of_lt_of_le (show (bd.add (i * 3)).block < w.heap.size from World.block_lt_of_cell? w ⟨(bd.add (i * 3)).block, (bd.add (i * 3)).off + 2, none⟩ hy2) hbw.size
      replace hx2 := (hbw.cell (World.block_lt_of_cell? w _ hx2)).trans hx2
      replace hy2 := (hbw.cell (World.block_lt_of_cell? w _ hy2)).trans hy2
      have HI := Lib.hid (Kd.C_below hi2 hbw)
      have HJ := Lib.hid (Kd.C_below hj2 hbw)
      have hmem : rd_T75 l i ∈ l := by simp [rd_T75, hia]
      have hzx := HZ.out _ hmem
      clear hbw hi2 hj2 hmem
      generalize rd_T75 l (i : Int) = x at *
      have HIN := Lib.hid (fun W h1 h2 => (keptInt64s_any A2 B2 c2 d2 x.f2 x.f2 W h1 hl2 h2 hm2 hzx).mono (R' := fun e w' => e = .returned (.bool true) ∧ Below W.heap.size W w') (fun e w' h => ⟨by rw [h.1, decide_eq_true rfl], h.2⟩))
      clear hl2 hm2 hzx
      go_wp2_with fail
      go_still_tail 10, (by kernel_rfl)
      change wpList _ _ _ _ _ wr.drew
      have HId := Lib.hid (Kd.C_drew HI.out)
      have HJd := Lib.hid (Kd.C_drew HJ.out)
      have hbd := below_drew hbl.out
      generalize wr.drew = w2 at *
      go_wp2_with fail
      refine (HIN.out _ HId.out HJd.out).mono ?_
      rintro e w1 ⟨rfl, d1⟩
      have HB2 := Lib.hid (bnext hbd d1)
      clear d1
      go_wp2_with fail
      go_roundg k
      case measure => omega
      case rel => exact ⟨i + 1, by go_num, by show i + 1 + k = l.length; omega, HB2⟩
theorem keptDoc_any (l : List S75) (A B : Option Addr) (ca cb : Nat) (w : World) (ha : (kview 75 kLEntry).K w (l.map toLEntry, [markLEntry]) [.slice A l.length ca]) (hb : Kd.C k75 w B l.length l) (hcb : l.length ≤ cb) (hz : ∀ x ∈ l, x.f2.length < 2 ^ 60) (hzl : l.length < 2 ^ 60) :
    Calls Tryd.prog 20 #[.agg #[.slice A l.length ca], .agg #[.slice B l.length cb]] w fun e w' => e = .returned (.bool true) ∧ Below w.heap.size w w' := by
  have HK := Lib.hid (fun W h1 h2 => keptEntries_any l A B ca cb W h1 h2 hcb hz hzl)
  have HA := Lib.hid ha
  have HB := Lib.hid hb
  clear ha hb hz
  go_enter Tryd.func20, Tryd.ntmps20
  go_wp2_with fail
  have hb0 : Below w.heap.size w ((w.alloc (Obj.cells #[Value.slice A l.length ca] 27)).alloc (Obj.cells #[Value.slice B l.length cb] 27)) := ((Below.refl _ w).alloc (Nat.le_refl _) _).alloc (by rw [World.size_alloc]; omega) _
  refine (HK.out _ (Kd.K_below _ hb0 HA.out) (Kd.C_below HB.out hb0)).mono ?_
  rintro e w1 ⟨rfl, b1⟩
  have HB1 := Lib.hid (bnext hb0 b1)
  clear b1
  go_wp2_with fail
  go_ret
  exact ⟨rfl, HB1.out⟩
end Go.Proofs.YtfmholpbpghojaaDoor
