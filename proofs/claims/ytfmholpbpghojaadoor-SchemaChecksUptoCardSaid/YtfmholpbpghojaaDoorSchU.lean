import Derived.Test.YtfmholpbpghojaaDoorSchT
import Derived.StillTailTactics
/-! KeptSchema on what was lent. -/
namespace Go.Proofs.YtfmholpbpghojaaDoor
set_option linter.unusedVariables false
set_option linter.unusedSimpArgs false
open Go.RowKit Go.Lib
open Go.Proofs.YtfmholpbpghojaaDoor.RSchemaChecks
open Go.Proofs.YtfmholpbpghojaaDoorW.PrintWords

/-- A lent field: where its chain lies, with the mark behind it. -/
theorem lfield_at {w : World} {A : Option Addr} {l : List S66} (h : Kd.C kLField w A (l.map toLField ++ [markLField]).length (l.map toLField ++ [markLField])) (i : Nat) (hi : i < l.length) :
    ∃ (ad : Addr) (A2 : Option Addr) (c2 : Nat), A = some ad ∧ w.cell? ⟨(ad.add (i * 7)).block, (ad.add (i * 7)).off + 2, none⟩ = some (.slice A2 (rd_T66 l (i : Int)).f2.length c2) ∧ ((rd_T66 l (i : Int)).f2 ++ [-7171]).length ≤ c2 ∧ Kd.C (Kd.int .i64) w A2 ((rd_T66 l (i : Int)).f2 ++ [-7171]).length ((rd_T66 l (i : Int)).f2 ++ [-7171]) := by
  obtain ⟨ad, e, hc⟩ := h.2.2 (by simp)
  obtain ⟨cs, h1, h2, h3⟩ := hc i (toLField (rd_T66 l (i : Int))) (by rw [List.getElem?_append_left (by simpa using hi), List.getElem?_map]; simp [rd_T66, hi])
  obtain ⟨_, _, rfl, rfl, ⟨_, _, rfl, rfl, ⟨_, _, rfl, ⟨A2, c2, rfl, l2, g2⟩, ⟨_, _, rfl, rfl, ⟨_, _, rfl, rfl, ⟨_, _, rfl, rfl, rfl⟩⟩⟩⟩⟩⟩ := h2
  exact ⟨ad, A2, c2, e, by rw [← add_field ad (i * 7) 2 (by omega)]; exact h3 2 _ rfl, l2, g2⟩
/-- The mark behind lent fields. -/
theorem lfield_mark {w : World} {A : Option Addr} {l : List S66} (h : Kd.C kLField w A (l.map toLField ++ [markLField]).length (l.map toLField ++ [markLField])) :
    ∃ ad : Addr, A = some ad ∧ w.cell? (ad.add (l.length * 7)) = some (.string ⟨#[109, 97, 114, 107]⟩) := by
  obtain ⟨ad, e, hc⟩ := h.2.2 (by simp)
  obtain ⟨cs, h1, h2, h3⟩ := hc l.length markLField (by rw [List.getElem?_append_right (by simp)]; simp)
  obtain ⟨_, _, rfl, rfl, ⟨_, _, rfl, rfl, ⟨_, _, rfl, ⟨A2, c2, rfl, l2, g2⟩, ⟨_, _, rfl, rfl, ⟨_, _, rfl, rfl, ⟨_, _, rfl, rfl, rfl⟩⟩⟩⟩⟩⟩ := h2
  exact ⟨ad, e, h3 0 _ rfl⟩
set_option maxHeartbeats 4000000 in
set_option maxRecDepth 100000 in
theorem keptSchema_any (l : List S66) (A B : Option Addr) (ca cb : Nat) (w : World) (ha : (kview 66 kLField).K w (l.map toLField, [markLField]) [.slice A l.length ca]) (hb : Kd.C k66 w B l.length l) (hz : ∀ x ∈ l, x.f2.length < 2 ^ 60) (hzl : l.length < 2 ^ 60) :
    Calls Tryd.prog 19 #[.agg #[.slice A l.length ca], .agg #[.slice B l.length cb]] w fun e w' => e = .returned (.bool true) ∧ Below w.heap.size w w' := by
  obtain ⟨A', c', ev, hlc, hC⟩ := ha
  simp at ev
  obtain ⟨rfl, rfl⟩ := ev
  have hA := lent_C (d' := k66) toLField rfl (fun w x cs h => kLField_K h) hC
  have HK := Lib.hid (fun W h1 h2 => kitSchema_same l A B ca cb W h1 h2 hz)
  have HA := Lib.hid hA
  have HB := Lib.hid hb
  have HC := Lib.hid hC
  have HZ := Lib.hid hz
  obtain ⟨ad, eA0, hmk⟩ := lfield_mark hC
  subst eA0
  have hzz : l.length ≤ 9223372036854775807 := hA.2.1
  have hcn : l.length + 1 ≤ ca := by simpa using hlc
  have hcn' : (l.length : Int) + 1 ≤ ca := by omega
  have hadm : (ad.add (l.length * 7)).block < w.heap.size := World.block_lt_of_cell? w _ hmk
  obtain ⟨i0, hi0, _, hsz_, _⟩ := info_parts infoLField
  clear hi0 hsz_ hA hC hb hz hlc
  go_enter Tryd.func19, Tryd.ntmps19
  go_wp2_with fail
  obtain ⟨W0, hW0⟩ : ∃ W0, W0 = (w.alloc (Obj.cells #[Value.slice (some ad) l.length ca] 24)).alloc (Obj.cells #[Value.slice B l.length cb] 24) := ⟨_, rfl⟩
  have hb0 : Below w.heap.size w W0 := by subst hW0; exact ((Below.refl _ w).alloc (Nat.le_refl _) _).alloc (by rw [World.size_alloc]; omega) _
  have hs0 : W0.heap[w.heap.size]? = some (.cells #[.slice (some ad) l.length ca] 24 (0, 0)) := by subst hW0; exact blk_alloc (blk_new _ _) _
  have hs1 : W0.heap[w.heap.size + 1]? = some (.cells #[.slice B l.length cb] 24 (0, 0)) := by subst hW0; have := blk_new (w.alloc (Obj.cells #[Value.slice (some ad) l.length ca] 24)) (.cells #[.slice B l.length cb] 24); rwa [World.size_alloc] at this
  rw [← hW0]
  clear hW0
  refine (HK.out _ (Kd.C_below HA.out hb0) (Kd.C_below HB.out hb0)).mono ?_
  rintro e W1 ⟨rfl, b1⟩
  have hs0' := blk_below hs0 b1
  have hs1' := blk_below hs1 b1
  have HB0 := Lib.hid (bnext hb0 b1)
  have HS0 := Lib.hid hs0'
  have HS1 := Lib.hid hs1'
  have hc0 : W1.cell? ⟨w.heap.size, 0, none⟩ = some (.slice (some ad) l.length ca) := (blk_cell hs0' 0).trans rfl
  have hc1 : W1.cell? ⟨w.heap.size + 1, 0, none⟩ = some (.slice B l.length cb) := (blk_cell hs1' 0).trans rfl
  clear hs0 hs1 hb0 b1 hs0' hs1'
  go_wp2_with fail
  go_loopg [5] l.length (fun kq v5 w' => ∃ i : Nat, v5 = .int .i64 (i : Int) ∧ Hid (i + kq = l.length) ∧ Hid (Below W1.heap.size W1 w'))
  case atStart => exact ⟨0, rfl, by show _ = _; omega, Below.refl _ _⟩
  case round =>
    obtain ⟨i, rfl, hi, hbl⟩ := hrel
    have hi1 := hi.out
    have hni : (0 : Int) ≤ i := by omega
    have hbw : Below w.heap.size w wr := HB0.out.trans (hbl.out.mono HB0.out.size)
    have hsb := blk_below HS0.out hbl.out
    have hsc : wr.cell? ⟨w.heap.size, 0, none⟩ = some (.slice (some ad) l.length ca) := (blk_cell hsb 0).trans rfl
    have htb := blk_below HS1.out hbl.out
    have htc : wr.cell? ⟨w.heap.size + 1, 0, none⟩ = some (.slice B l.length cb) := (blk_cell htb 0).trans rfl
    have HBW := Lib.hid hbw
    clear hsb htb
    cases gk with
    | zero =>
      have hi2 : i = l.length := by omega
      subst hi2
      have hmk' := (HBW.out.cell (World.block_lt_of_cell? w _ hmk)).trans hmk
      go_wp2_with fail
      go_ret
      exact ⟨rfl, HBW.out⟩
    | succ k =>
      have hia : i < l.length := by omega
      have hia' : (i : Int) < l.length := by omega
      obtain ⟨ad', A2, c2, eA, hx2, hl2, hi2⟩ := lfield_at HC.out i hia
      obtain rfl : ad = ad' := Option.some.inj eA
      obtain ⟨bd, B2, d2, eB, hy0, hy1, hy2, hy3, hy4, hy5, hy6, hm2, hj2⟩ := at_T66 HB.out i hni hia'
      subst eB
      rw [Int.toNat_natCast] at hy2
      clear hy0 hy1 hy3 hy4 hy5 hy6 eA
      have hadl : (ad.add (i * 7)).block < wr.heap.size := Nat.lt_of_lt_of_le (show (ad.add (i * 7)).block < w.heap.size from World.block_lt_of_cell? w ⟨(ad.add (i * 7)).block, (ad.add (i * 7)).off + 2, none⟩ hx2) hbw.size
      have hbdl : (bd.add (i * 7)).block < wr.heap.size := Nat.lt_of_lt_of_le (show (bd.add (i * 7)).block < w.heap.size from World.block_lt_of_cell? w ⟨(bd.add (i * 7)).block, (bd.add (i * 7)).off + 2, none⟩ hy2) hbw.size
      replace hx2 := (hbw.cell (World.block_lt_of_cell? w _ hx2)).trans hx2
      replace hy2 := (hbw.cell (World.block_lt_of_cell? w _ hy2)).trans hy2
      have HI := Lib.hid (Kd.C_below hi2 hbw)
      have HJ := Lib.hid (Kd.C_below hj2 hbw)
      have hmem : rd_T66 l i ∈ l := by simp [rd_T66, hia]
      have hzx := HZ.out _ hmem
      clear hbw hi2 hj2 hmem
      generalize rd_T66 l (i : Int) = x at *
      have HIN := Lib.hid (fun W h1 h2 => (keptInts_any A2 B2 c2 d2 x.f2 x.f2 W h1 hl2 h2 hm2 hzx).mono (R' := fun e w' => e = .returned (.bool true) ∧ Below W.heap.size W w') (fun e w' h => ⟨by rw [h.1, decide_eq_true rfl], h.2⟩))
      clear hl2 hm2 hzx
      go_wp2_with fail
      go_still_tail 12, (by kernel_rfl)
      change wpList _ _ _ _ _ wr.drew
      have HId := Lib.hid (Kd.C_drew HI.out)
      have HJd := Lib.hid (Kd.C_drew HJ.out)
      have hbd := below_drew hbl.out
      generalize wr.drew = w2 at *
      go_wp2_with fail
      refine (HIN.out _ HId.out HJd.out).mono ?_
      rintro e w1 ⟨rfl, d1⟩
      have HB2 := Lib.hid (bnext hbd d1)
      clear d1
      go_wp2_with fail
      go_roundg k
      case measure => omega
      case rel => exact ⟨i + 1, by go_num, by show i + 1 + k = l.length; omega, HB2⟩
end Go.Proofs.YtfmholpbpghojaaDoor
