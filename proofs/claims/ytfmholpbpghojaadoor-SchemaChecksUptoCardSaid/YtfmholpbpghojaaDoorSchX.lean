import Derived.Test.YtfmholpbpghojaaDoorSchH
/-! The reference's Stored. -/
namespace Go.Proofs.YtfmholpbpghojaaDoor
set_option linter.unusedVariables false
set_option linter.unusedSimpArgs false
open Go.RowKit Go.Lib
open Go.Proofs.YtfmholpbpghojaaDoor.RSchemaChecks
open Go.Proofs.YtfmholpbpghojaaDoorW.PrintWords

set_option maxHeartbeats 4000000 in
set_option maxRecDepth 100000 in
theorem rStored_any (fs : List S66) (l : List S75) (A B : Option Addr) (ca cb : Nat) (w : World)
    (hfs : Kd.C k66 w A fs.length fs) (hca : fs.length ≤ ca) (hl : Kd.C k75 w B l.length l) (hz : ∀ x ∈ l, x.f2.length < 17592186044000) (hzl : l.length < 1099511627776) (hzf : fs.length < 2 ^ 60) :
    Calls Tryd.prog 18 #[.agg #[.slice A fs.length ca], .agg #[.slice B l.length cb]] w fun e w' =>
      ∃ v, e = .returned v ∧ Kd.R k75 75 w' w.heap.size (fun k => w.heap.size ≤ k) v (keptL fs l) ∧ Below w.heap.size w w' := by
  have HFS := Lib.hid hfs
  have HL := Lib.hid hl
  have HZ := Lib.hid hz
  have HF := Lib.hid (fun name W h => lecternref08_Find.calls (rfind_f fs name hzf).choose A ca fs name _ W h hca (rfind_f fs name hzf).choose_spec)
  clear hfs hl hz
  go_enter Tryd.func18, Tryd.ntmps18
  go_wp2_with fail
  obtain ⟨W0, hW0⟩ : ∃ W0, W0 = (w.alloc (Obj.cells #[Value.slice A fs.length ca] 24)).alloc (Obj.cells #[Value.slice B l.length cb] 27) := ⟨_, rfl⟩
  have hb0 : Below w.heap.size w W0 := by subst hW0; exact ((Below.refl _ w).alloc (Nat.le_refl _) _).alloc (by rw [World.size_alloc]; omega) _
  have hs0 : W0.heap[w.heap.size]? = some (.cells #[.slice A fs.length ca] 24 (0, 0)) := by subst hW0; exact blk_alloc (blk_new _ _) _
  have hs1 : W0.heap[w.heap.size + 1]? = some (.cells #[.slice B l.length cb] 27 (0, 0)) := by subst hW0; have := blk_new (w.alloc (Obj.cells #[Value.slice A fs.length ca] 24)) (.cells #[.slice B l.length cb] 27); rwa [World.size_alloc] at this
  rw [← hW0]
  clear hW0
  have hzW := blk_lt hs1
  have HS0 := Lib.hid hs0
  have HS1 := Lib.hid hs1
  have HB0 := Lib.hid hb0
  clear hs0 hs1 hb0
  go_loopg [5, 6] l.length (fun kq v5 v6 w' => ∃ i : Nat, v6 = .int .i64 (i : Int) ∧ Hid (i + kq = l.length) ∧ Hid (Kd.R k75 75 w' W0.heap.size (fun k => W0.heap.size ≤ k) v5 (keptL fs (l.take i))) ∧ Hid (Below W0.heap.size W0 w'))
  case atStart => exact ⟨0, rfl, by show _ = _; omega, Kd.R_nil _ _ _ _ _, Below.refl _ _⟩
  case round =>
    obtain ⟨i, rfl, hi, ho, hbl⟩ := hrel
    have hi1 := hi.out
    have hni : (0 : Int) ≤ i := by omega
    have hbw : Below w.heap.size w wr := HB0.out.trans (hbl.out.mono HB0.out.size)
    have hsb := blk_below HS0.out hbl.out
    have hsc : wr.cell? ⟨w.heap.size, 0, none⟩ = some (.slice A fs.length ca) := (blk_cell hsb 0).trans rfl
    have htb := blk_below HS1.out hbl.out
    have htc : wr.cell? ⟨w.heap.size + 1, 0, none⟩ = some (.slice B l.length cb) := (blk_cell htb 0).trans rfl
    have htl : w.heap.size + 1 < wr.heap.size := blk_lt htb
    have HSB := Lib.hid hsb
    have HTB := Lib.hid htb
    have HBW := Lib.hid hbw
    clear hsb htb
    cases gk with
    | zero =>
      have hi2 : i = l.length := by omega
      subst hi2
      rw [List.take_length] at ho
      go_wp2_with fail
      go_ret
      exact ⟨_, rfl, Kd.R_mono (Kd.R_lower ho.out (by omega)) (fun k (hk : W0.heap.size ≤ k) => by omega), HBW.out⟩
    | succ k =>
      have hia : i < l.length := by omega
      have hia' : (i : Int) < l.length := by omega
      obtain ⟨bd, B2, d2, eB, hx0, hx1, hx2, hl2, hj2⟩ := at_T75 HL.out i hni hia'
      subst eB
      rw [Int.toNat_natCast] at hx0 hx1 hx2
      have hbdl : (bd.add (i * 3)).block < wr.heap.size := Nat.lt_of_lt_of_le (World.block_lt_of_cell? w _ hx0) hbw.size
      replace hx0 := (hbw.cell (World.block_lt_of_cell? w _ hx0)).trans hx0
      replace hx1 := (hbw.cell (World.block_lt_of_cell? w _ hx1)).trans hx1
      replace hx2 := (hbw.cell (World.block_lt_of_cell? w _ hx2)).trans hx2
      have hmem := rd_memEntry l i hia
      have hzx := HZ.out _ hmem
      have htk : keptL fs (l.take (i + 1)) = keptL fs (l.take i) ++ (if keptB fs (rd_T75 l i) = true then [rd_T75 l i] else []) := by
        unfold keptL
        rw [List.take_succ_eq_append_getElem hia, List.filter_append]
        simp only [List.filter_cons, List.filter_nil, rd_T75, List.getD_eq_getElem?_getD, Int.toNat_natCast, List.getElem?_eq_getElem hia, Option.getD_some]
      have HTK := Lib.hid htk
      have HI := Lib.hid hj2
      have hkl : (keptL fs (l.take i)).length ≤ i := by
        have h2 : (keptL fs (l.take i)).length ≤ (l.take i).length := List.length_filter_le _ _
        rw [List.length_take] at h2
        omega
      have HKL := Lib.hid hkl
      clear htk hmem hbw hj2 hkl
      generalize rd_T75 l (i : Int) = x at *
      have hfl := findI_lt x.f0 fs 0
      have HKB : Hid (keptB fs x = (decide (0 ≤ findI x.f0 fs 0) && (rd_T66 fs (findI x.f0 fs 0)).f6)) := Lib.hid rfl
      have HFX := Lib.hid (HF.out x.f0)
      have HFA := Lib.hid (fun (q : Int) (h0 : 0 ≤ q) (h1 : q < fs.length) => at_T66 HFS.out q h0 h1)
      generalize findI x.f0 fs 0 = q at *
      go_wp2_with fail
      go_still_tail 7, (by kernel_rfl)
      change wpList _ _ _ _ _ wr.drew
      have HFSd := Lib.hid (Kd.C_drew (Kd.C_below HFS.out HBW.out))
      have HBWd := Lib.hid (below_drew HBW.out)
      have HBLd := Lib.hid (below_drew hbl.out)
      have HOd := Lib.hid (Kd.R_drew ho.out)
      have hx0d : wr.drew.cell? (bd.add (i * 3)) = some (.string x.f0) := hx0
      have hx1d : wr.drew.cell? ⟨(bd.add (i * 3)).block, (bd.add (i * 3)).off + 1, none⟩ = some (.string x.f1) := hx1
      have hx2d : wr.drew.cell? ⟨(bd.add (i * 3)).block, (bd.add (i * 3)).off + 2, none⟩ = some (.slice B2 x.f2.length d2) := hx2
      have hscd : wr.drew.cell? ⟨w.heap.size, 0, none⟩ = some (.slice A fs.length ca) := hsc
      have htcd : wr.drew.cell? ⟨w.heap.size + 1, 0, none⟩ = some (.slice (some bd) l.length cb) := htc
      have htld : w.heap.size + 1 < wr.drew.heap.size := htl
      have hbdld : (bd.add (i * 3)).block < wr.drew.heap.size := hbdl
      clear hx0 hx1 hx2 hsc htc htl hbdl
      generalize wr.drew = w2 at *
      go_wp2_with fail
      refine (HFX.out _ HFSd.out).mono ?_
      rintro e w1 ⟨rfl, b1⟩
      have hx0 := (b1.cell hbdld).trans hx0d
      have hx1 := (b1.cell (p := ⟨(bd.add (i * 3)).block, (bd.add (i * 3)).off + 1, none⟩) hbdld).trans hx1d
      have hx2 := (b1.cell (p := ⟨(bd.add (i * 3)).block, (bd.add (i * 3)).off + 2, none⟩) hbdld).trans hx2d
      have hsc := (b1.cell (p := ⟨w.heap.size, 0, none⟩) (by show w.heap.size < w2.heap.size; omega)).trans hscd
      have htc := (b1.cell (p := ⟨w.heap.size + 1, 0, none⟩) htld).trans htcd
      have htl : w.heap.size + 1 < w1.heap.size := Nat.lt_of_lt_of_le htld b1.size
      have hbdl : (bd.add (i * 3)).block < w1.heap.size := Nat.lt_of_lt_of_le hbdld b1.size
      have HO1 := Lib.hid (Kd.R_below HOd.out b1)
      have HB1 := Lib.hid (bnext HBWd.out b1)
      have HBL1 := Lib.hid (bnext HBLd.out b1)
      have HI1 := Lib.hid (Kd.C_below HI.out HB1.out)
      clear b1 hx0d hx1d hx2d hscd htcd htld hbdld
      by_cases hq : 0 ≤ q
      · have hqd : decide (0 ≤ q) = true := decide_eq_true hq
        have hqz : q < (fs.length : Int) := by omega
        obtain ⟨fd, F2, g2, eF, -, -, -, -, -, -, hf6, -, -⟩ := HFA.out q hq hqz
        subst eF
        have hfdl : (fd.add (q.toNat * 7)).block < w1.heap.size := Nat.lt_of_lt_of_le (show (fd.add (q.toNat * 7)).block < w.heap.size from World.block_lt_of_cell? w ⟨(fd.add (q.toNat * 7)).block, (fd.add (q.toNat * 7)).off + 6, none⟩ hf6) HB1.out.size
        replace hf6 := (HB1.out.cell (World.block_lt_of_cell? w _ hf6)).trans hf6
        have hkb := HKB.out
        rw [hqd, Bool.true_and] at hkb
        clear HFS HFA
        cases hst : (rd_T66 fs q).f6 with
        | true =>
          rw [hst] at hkb hf6
          have htk1 := HTK.out
          rw [hkb, if_pos rfl] at htk1
          have HTK1 := Lib.hid htk1
          clear htk1 hkb hst
          have HBX := Lib.hid (blk_new w1 (.cells #[.string x.f0, .string x.f1, .slice B2 x.f2.length d2] 75))
          have HIA := Lib.hid (Kd.C_alloc HI1.out (.cells #[.string x.f0, .string x.f1, .slice B2 x.f2.length d2] 75))
          have HY : Hid (([] : List Int) ++ x.f2 = x.f2) := Lib.hid (by simp)
          have HBA := Lib.hid (HB1.out.alloc HB1.out.size (.cells #[.string x.f0, .string x.f1, .slice B2 x.f2.length d2] 75))
          have HBLA := Lib.hid (HBL1.out.alloc HBL1.out.size (.cells #[.string x.f0, .string x.f1, .slice B2 x.f2.length d2] 75))
          obtain ⟨WA, hWA⟩ : ∃ WA, WA = w1.alloc (.cells #[.string x.f0, .string x.f1, .slice B2 x.f2.length d2] 75) := ⟨_, rfl⟩
          have hWz : WA.heap.size = w1.heap.size + 1 := by rw [hWA, World.size_alloc]
          have HWA := Lib.hid hWA
          have HWZ := Lib.hid hWz
          clear hWA hWz
          go_wp2_with (first
            | ((with_reducible refine gate_dst (N := 39) rfl ?_); rw [← HWA.out]; refine Kd.R_lit (Kd.int .i64) _ 2 ?hg (N := 39) ?hd (xs := ([] : List Int)) (inner := []) (ok := fun k => WA.heap.size ≤ k) (okp := fun _ => False) ?hr ?hp (fun _ hk => hk.elim) (Nat.le_refl _) (Below.refl _ _) (Nat.le_refl _) (by simp) ?_; (case hd => rfl); (case hg => rfl); (case hr => first | (go_simp; done) | (go_simp; rfl)); (case hp => exact (Reps.none _ _)); intro v3 w3 ho3 hb3 hg_ hat; have HO3 := Lib.hid ho3; have HB3 := Lib.hid hb3; have hbx := blk_below (show WA.heap[w1.heap.size]? = _ by rw [HWA.out]; exact HBX.out) hb3; have hc2 : w3.cell? ⟨w1.heap.size, 2, none⟩ = some (.slice B2 x.f2.length d2) := (blk_cell hbx 2).trans rfl; have hzl3 := blk_lt hbx; clear ho3 hb3 hg_ hat hbx)
            | ((with_reducible refine gate_builtin (b := .append) (xs := #[.tmp 39, .tmp 41]) rfl ?_); at_builtin; refine Kd.R_append_rows (Kd.int .i64) (w0 := WA) WA.heap.size rfl (.tmp 39) (.tmp 41) 73 2 (.int .i64 0) 8 rfl Tryd.underlying73 info_int64 rfl (by decide) (by omega) v3 ([] : List Int) x.f2 _ _ _ (fun k => WA.heap.size ≤ k) (fun _ => False) rfl rfl HO3.out (Kd.C_below (show Kd.C (Kd.int .i64) WA B2 x.f2.length x.f2 by rw [HWA.out]; exact HIA.out) HB3.out) (fun _ _ h => h) (fun _ h => h.elim) (fun k hk => Nat.le_trans HB3.out.size hk) HB3.out HB3.out.size (by simp; omega) ?_; intro v4 w4 ho4 hb4 hg4 hat4; rw [HY.out] at ho4; obtain ⟨A4, c4, ev4⟩ := Kd.R_slice ho4; subst ev4; have hb4' : Below (w1.alloc (.cells #[.string x.f0, .string x.f1, .slice B2 x.f2.length d2] 75)).heap.size (w1.alloc (.cells #[.string x.f0, .string x.f1, .slice B2 x.f2.length d2] 75)) w4 := (by rw [← HWA.out]; exact hb4); have hbx := blk_below HBX.out hb4'; have hd0 : w4.cell? ⟨w1.heap.size, 0, none⟩ = some (.string x.f0) := (blk_cell hbx 0).trans rfl; have hd1 : w4.cell? ⟨w1.heap.size, 1, none⟩ = some (.string x.f1) := (blk_cell hbx 1).trans rfl; have hd2 : w4.cell? ⟨w1.heap.size, 2, none⟩ = some (.slice B2 x.f2.length d2) := (blk_cell hbx 2).trans rfl; have hdf := blk_frozen hbx 2; have hzl4 := blk_lt hbx; have HO4 := Lib.hid (mine_set (mine_boxed HO1.out hb4') 2 (.slice A4 x.f2.length c4)); have HM4 := Lib.hid (Kd.R_lower (base' := W0.heap.size) (Kd.R_far (p := ⟨w1.heap.size, 2, none⟩) ho4 (fun k (hk : WA.heap.size ≤ k) => (by have := HWZ.out; show k ≠ w1.heap.size; omega)) (.slice A4 x.f2.length c4)) (by have := HWZ.out; have := HBL1.out.size; omega)); have HB4 := Lib.hid ((bnext HBA.out hb4').setCell (p := ⟨w1.heap.size, 2, none⟩) HB1.out.size (.slice A4 x.f2.length c4)); have HBL4 := Lib.hid ((bnext HBLA.out hb4').setCell (p := ⟨w1.heap.size, 2, none⟩) HBL1.out.size (.slice A4 x.f2.length c4)); clear ho4 hb4 hg4 hat4 hb4' hbx)
            | ((with_reducible refine gate_builtin (b := .append) (xs := #[.tmp 44, .tmp 46]) rfl ?_); at_builtin; refine Kd.R_append k75 (w0 := W0) W0.heap.size rfl (.tmp 44) (.tmp 46) 25 75 (.agg #[.string ⟨#[]⟩, .string ⟨#[]⟩, .slice none 0 0]) 56 rfl Tryd.underlying25 infoEntry rfl (by decide) (by omega) u5 (keptL fs (l.take i)) x _ (fun k => W0.heap.size ≤ k) (fun k => WA.heap.size ≤ k) rfl (by first | rfl | (rw [World.size_setCell]; rfl)) (k75_mkM _ _ _ x HM4.out) (fun k hk => ⟨(by have := HWZ.out; have := HBL1.out.size; omega), fun he => (by have := Kd.R_lt HO1.out k he.symm; have := HWZ.out; omega)⟩) (fun k hk => Nat.le_trans HBL4.out.size hk) (Kd.R_mono HO4.out (fun _ h => h.1)) HBL4.out HBL4.out.size (by have := HKL.out; omega) ?_; intro v5 w5 ho5 hb5 hg5 hat5; rw [← HTK1.out] at ho5; have HO5 := Lib.hid ho5; have HBL5 := Lib.hid hb5; clear ho5 hb5 hg5 hat5))
          go_roundg k
          case measure => omega
          case rel => exact ⟨i + 1, by go_num, by show i + 1 + k = l.length; omega, HO5, HBL5⟩
        | false =>
          rw [hst] at hkb hf6
          have htk1 := HTK.out
          rw [hkb, if_neg (by decide), List.append_nil] at htk1
          have HO2 : Hid (Kd.R k75 75 w1 W0.heap.size (fun k => W0.heap.size ≤ k) u5 (keptL fs (l.take (i + 1)))) := Lib.hid (by rw [htk1]; exact HO1.out)
          clear htk1 hkb hst
          go_wp2_with fail
          go_roundg k
          case measure => omega
          case rel => exact ⟨i + 1, by go_num, by show i + 1 + k = l.length; omega, HO2, HBL1⟩
      · have hqd : decide (0 ≤ q) = false := decide_eq_false hq
        have hkb := HKB.out
        rw [hqd, Bool.false_and] at hkb
        have htk1 := HTK.out
        rw [hkb, if_neg (by decide), List.append_nil] at htk1
        have HO2 : Hid (Kd.R k75 75 w1 W0.heap.size (fun k => W0.heap.size ≤ k) u5 (keptL fs (l.take (i + 1)))) := Lib.hid (by rw [htk1]; exact HO1.out)
        clear htk1 hkb
        go_wp2_with fail
        go_roundg k
        case measure => omega
        case rel => exact ⟨i + 1, by go_num, by show i + 1 + k = l.length; omega, HO2, HBL1⟩
end Go.Proofs.YtfmholpbpghojaaDoor
