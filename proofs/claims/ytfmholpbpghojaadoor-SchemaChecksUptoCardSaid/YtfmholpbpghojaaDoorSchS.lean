import Derived.Test.YtfmholpbpghojaaDoorSchI
/-! slices.Clone; the entries that are stored: kept, Stored. -/
namespace Go.Proofs.YtfmholpbpghojaaDoor
set_option linter.unusedVariables false
set_option linter.unusedSimpArgs false
open Go.RowKit Go.Lib
open Go.Proofs.YtfmholpbpghojaaDoor.RSchemaChecks
open Go.Proofs.YtfmholpbpghojaaDoorW.PrintWords

set_option maxRecDepth 100000 in
theorem clone_any (l : List Int) (A : Option Addr) (c : Nat) (w : World) (hl : Kd.C (Kd.int .i64) w A l.length l) (hz : l.length < 17592186044000) :
    Calls Tryd.prog 44 #[.slice A l.length c] w fun e w' => ∃ v, e = .returned v ∧ Kd.R (Kd.int .i64) 2 w' w.heap.size (fun k => w.heap.size ≤ k) v l ∧ Below w.heap.size w w' := by
  have HL := Lib.hid hl
  have HZ := Lib.hid hz
  cases A with
  | none =>
    have hl0 : l = [] := by
      cases l with
      | nil => rfl
      | cons x r => obtain ⟨ad, e, _⟩ := hl.2.2 (by simp); cases e
    subst hl0
    clear hl hz
    have hq := fun W => Lib.run_eql_slice_nil (P := Tryd.prog) W 73 2 none 0 c 0 0 Tryd.underlying73
    simp only [Option.isNone] at hq
    go_enter Tryd.func44, Tryd.ntmps44
    go_wp2_with fail
    go_ret
    exact ⟨_, rfl, Kd.R_nil _ _ _ _ _, Below.refl _ _⟩
  | some ad =>
    clear hl hz
    have hq := fun W => Lib.run_eql_slice_nil (P := Tryd.prog) W 73 2 (some ad) l.length c 0 0 Tryd.underlying73
    simp only [Option.isNone] at hq
    have HY : Hid (([] : List Int) ++ l = l) := Lib.hid (by simp)
    go_enter Tryd.func44, Tryd.ntmps44
    go_wp2_with (first
      | ((with_reducible refine gate_dst (N := 5) rfl ?_); refine Kd.R_lit (Kd.int .i64) _ 2 ?hg (N := 5) ?hd (xs := ([] : List Int)) (inner := []) (ok := fun k => w.heap.size ≤ k) (okp := fun _ => False) ?hr ?hp (fun _ hk => hk.elim) (Nat.le_refl _) (Below.refl _ _) (Nat.le_refl _) (by simp) ?_; (case hd => rfl); (case hg => rfl); (case hr => first | (go_simp; done) | (go_simp; rfl)); (case hp => exact (Reps.none _ _)); intro v1 w1 ho hb hg_ hat; have HO1 := Lib.hid ho; have HB1 := Lib.hid hb; clear ho hb hg_ hat)
      | ((with_reducible refine gate_builtin (b := .append) (xs := #[.tmp 5, .tmp 6]) rfl ?_); at_builtin; refine Kd.R_append_rows (Kd.int .i64) (w0 := w) w.heap.size rfl (.tmp 5) (.tmp 6) 73 2 (.int .i64 0) 8 rfl Tryd.underlying73 info_int64 rfl (by decide) (by omega) v1 ([] : List Int) l _ _ _ (fun k => w.heap.size ≤ k) (fun _ => False) rfl rfl HO1.out (Kd.C_below HL.out HB1.out) (fun _ _ h => h) (fun _ h => h.elim) (fun k hk => Nat.le_trans HB1.out.size hk) HB1.out HB1.out.size (by have := HZ.out; simp; omega) ?_; intro v2 w2 ho hb hg hat; rw [HY.out] at ho; have HO2 := Lib.hid ho; have HB2 := Lib.hid hb; clear ho hb hg hat))
    go_ret
    exact ⟨_, rfl, HO2.out, HB2.out⟩

/-- What a round keeps: all below n₀, and one block more. -/
def KpB (n₀ B : Nat) (W W' : World) : Prop := Below n₀ W W' ∧ W'.heap[B]? = W.heap[B]?
theorem KpB.trans' {n₀ B : Nat} {X Y Z : World} (h : KpB n₀ B X Y) (k : KpB n₀ B Y Z) : KpB n₀ B X Z := ⟨h.1.trans k.1, k.2.trans h.2⟩
theorem findI_lt (name : ByteArray) : ∀ (fs : List S66) (i : Nat), findI name fs i < i + fs.length ∧ (findI name fs i = -1 ∨ (i : Int) ≤ findI name fs i)
  | [], i => by simp [findI]; omega
  | x :: r, i => by
    have h := findI_lt name r (i + 1)
    unfold findI
    simp only [List.length_cons]
    split <;> omega
/-- Is an entry stored? -/
def keptB (fs : List S66) (x : S75) : Bool := decide (0 ≤ findI x.f0 fs 0) && (rd_T66 fs (findI x.f0 fs 0)).f6
def keptL (fs : List S66) (l : List S75) : List S75 := l.filter (keptB fs)
/-- An entry as it is handed on: its numbers' place. -/
abbrev EA (w0 : World) := { p : S75 × Option Addr × Nat // p.1.f2.length ≤ p.2.2 ∧ Kd.C (Kd.int .i64) w0 p.2.1 p.1.f2.length p.1.f2 ∧ p.1.f2.length < 17592186044000 }
def encE {w0 : World} (p : EA w0) : Array Value := #[.agg #[.string p.1.1.f0, .string p.1.1.f1, .slice p.1.2.1 p.1.1.f2.length p.1.2.2]]
set_option maxHeartbeats 4000000 in
set_option maxRecDepth 100000 in
theorem kept1_in (n : Nat) (hn : 1 ≤ n) (fs : List S66) (l : List S75) (A B : Option Addr) (ca cb : Nat) (w0 : World) (Bd Bs : Nat)
    (hfs : Kd.C k66 w0 A fs.length fs) (hl : Kd.C k75 w0 B l.length l) (hz : ∀ x ∈ l, x.f2.length < 17592186044000) (hzl : l.length < 2 ^ 60)
    (ll : Nat) (J Jx : List (EA w0) → World → Prop) (W : World) (hW : Below w0.heap.size w0 W) (hBd : W.heap[Bd]? = some (.cells #[.slice B l.length cb] 27 (0, 0))) (hBs : W.heap[Bs]? = some (.cells #[.slice A fs.length ca] 24 (0, 0)))
    (hJ : AbidesFrom W.heap.size J)
    (hY : ∀ pre x W1, J pre W1 → pre.length < l.length → YieldAt Fence.wide (n - 1) Tryd.prog ll (encE x) W1 fun e W' =>
      (e = .returned (.bool true) ∧ J (pre ++ [x]) W' ∧ KpB w0.heap.size Bs W1 W') ∨ (e = .returned (.bool false) ∧ Jx (pre ++ [x]) W'))
    (h0 : J [] W) :
    CallsIn Fence.wide n Tryd.prog 67 #[.func (.yield ll) #[] #[], .pointer (some ⟨Bd, 0, none⟩), .pointer (some ⟨Bs, 0, none⟩)] W fun e W' => (∃ v, e = .returned v) ∧
      ((∃ ys, ys.map (fun p => p.1.1) = keptL fs l ∧ J ys W') ∨ (∃ pre : List (EA w0), True ∧ Jx pre W')) := by
  have HFS := Lib.hid hfs
  have HL := Lib.hid hl
  have HZ := Lib.hid hz
  have HW := Lib.hid hW
  have HBS := Lib.hid hBs
  have HJ := Lib.hid hJ
  have HY := Lib.hid hY
  have HF := Lib.hid (fun name W h => find_any fs A ca name W h)
  have hcd : W.cell? ⟨Bd, 0, none⟩ = some (.slice B l.length cb) := (blk_cell hBd 0).trans rfl
  clear hfs hl hz hW hBs hJ hY hBd
  refine callsIn_of_wp Tryd.func67 rfl trivial ?_ rfl
  simp only [Tryd.ntmps67, List.size_toArray, List.length_cons, List.length_nil, Nat.reduceAdd, Nat.reduceSub, Array.replicate_succ, Array.replicate_zero, List.push_toArray, List.append_toArray, List.nil_append, List.cons_append]
  gi_wp2
  gi_loopw [11] (fun i wr => ∃ (k : Nat) (pre : List (EA w0)), k ≤ l.length ∧ i = .int .i64 k ∧ Hid (pre.map (fun p => p.1.1) = keptL fs (l.take k)) ∧ Hid (J pre wr) ∧ Hid (Below w0.heap.size W wr) ∧ Hid (W.heap.size ≤ wr.heap.size) ∧ Hid (wr.heap[Bs]? = some (.cells #[.slice A fs.length ca] 24 (0, 0))))
    (fun i _ => l.length - (intOf i).toNat)
  case atStart => exact ⟨0, [], Nat.zero_le _, rfl, rfl, h0, Below.refl _ _, Nat.le_refl _, HBS⟩
  case round =>
    obtain ⟨k, pre, hk, rfl, hpre, hjs, hnx, hsz, hbs⟩ := hrel
    by_cases hlt : k < l.length
    · have hlt' : (k : Int) < l.length := by omega
      have hnk : (0 : Int) ≤ k := by omega
      have hbw0 : Below w0.heap.size w0 wr := HW.out.trans hnx.out
      obtain ⟨ad, A2, c2, eA, hx0, hx1, hx2, hl2, hi2⟩ := at_T75 HL.out k hnk hlt'
      subst eA
      rw [Int.toNat_natCast] at hx0 hx1 hx2
      have hadl : (ad.add (k * 3)).block < wr.heap.size := Nat.lt_of_lt_of_le (World.block_lt_of_cell? w0 _ hx0) hbw0.size
      replace hx0 := (hbw0.cell (World.block_lt_of_cell? w0 _ hx0)).trans hx0
      replace hx1 := (hbw0.cell (World.block_lt_of_cell? w0 _ hx1)).trans hx1
      replace hx2 := (hbw0.cell (World.block_lt_of_cell? w0 _ hx2)).trans hx2
      have hbsc : wr.cell? ⟨Bs, 0, none⟩ = some (.slice A fs.length ca) := (blk_cell hbs.out 0).trans rfl
      have hbsl : Bs < wr.heap.size := blk_lt hbs.out
      have hmem := rd_memEntry l k hlt
      have hzx := HZ.out _ hmem
      have htk : keptL fs (l.take (k + 1)) = keptL fs (l.take k) ++ (if keptB fs (rd_T75 l k) = true then [rd_T75 l k] else []) := by
        unfold keptL
        rw [List.take_succ_eq_append_getElem hlt, List.filter_append]
        simp only [List.filter_cons, List.filter_nil, rd_T75, List.getD_eq_getElem?_getD, Int.toNat_natCast, List.getElem?_eq_getElem hlt, Option.getD_some]
      have HTK := Lib.hid htk
      clear htk hmem
      generalize rd_T75 l (k : Int) = x at *
      have HI := Lib.hid hi2
      have hplen : pre.length ≤ k := by
        have h1 := congrArg List.length hpre.out
        rw [List.length_map] at h1
        have h2 : (keptL fs (l.take k)).length ≤ (l.take k).length := List.length_filter_le _ _
        rw [List.length_take] at h2
        omega
      have hbx0 := blk_new wr (.cells #[.string x.f0, .string x.f1, .slice A2 x.f2.length c2] 75)
      have HBX0 := Lib.hid hbx0
      have hba : Below wr.heap.size wr (wr.alloc (.cells #[.string x.f0, .string x.f1, .slice A2 x.f2.length c2] 75)) := (Below.refl _ _).alloc (Nat.le_refl _) _
      have HBA := Lib.hid hba
      have HK0 := Lib.hid (Kd.C_below HFS.out (hbw0.trans (hba.mono hbw0.size)))
      clear hbx0 hba hi2
      have hfl := findI_lt x.f0 fs 0
      have HKB : Hid (keptB fs x = (decide (0 ≤ findI x.f0 fs 0) && (rd_T66 fs (findI x.f0 fs 0)).f6)) := Lib.hid rfl
      have HFX := Lib.hid (HF.out x.f0)
      have HFA := Lib.hid (fun (q : Int) (h0 : 0 ≤ q) (h1 : q < fs.length) => at_T66 HFS.out q h0 h1)
      generalize findI x.f0 fs 0 = q at *
      gi_wp2_with fail
      refine ⟨trivial, (callsIn_wide.2 (HFX.out _ HK0.out)).mono ?_⟩
      rintro e w1 ⟨rfl, b1⟩
      have hbx := blk_below HBX0.out b1
      have he0 : w1.cell? ⟨wr.heap.size, 0, none⟩ = some (.string x.f0) := (blk_cell hbx 0).trans rfl
      have he1 : w1.cell? ⟨wr.heap.size, 1, none⟩ = some (.string x.f1) := (blk_cell hbx 1).trans rfl
      have he2 : w1.cell? ⟨wr.heap.size, 2, none⟩ = some (.slice A2 x.f2.length c2) := (blk_cell hbx 2).trans rfl
      have hez : wr.heap.size < w1.heap.size := blk_lt hbx
      have HB1 : Hid (Below wr.heap.size wr w1) := Lib.hid (bnext HBA.out b1)
      have hbs1 := blk_below hbs.out HB1.out
      have hbsc1 : w1.cell? ⟨Bs, 0, none⟩ = some (.slice A fs.length ca) := (blk_cell hbs1 0).trans rfl
      have hbsl1 : Bs < w1.heap.size := blk_lt hbs1
      have HBS1 := Lib.hid hbs1
      have HJ1 : Hid (J pre w1) := Lib.hid (HJ.out pre wr w1 none hjs.out (grown_of_below HB1.out none) (fun r e => by cases e))
      have HNX1 : Hid (Below w0.heap.size W w1) := Lib.hid (hnx.out.trans (HB1.out.mono hbw0.size))
      have HSZ1 : Hid (W.heap.size ≤ w1.heap.size) := Lib.hid (Nat.le_trans hsz.out HB1.out.size)
      have HBW1 : Hid (Below w0.heap.size w0 w1) := Lib.hid (hbw0.trans (HB1.out.mono hbw0.size))
      clear b1 hbx hbs1 hbw0 hbsc hbsl hx0 hx1 hx2
      by_cases hq : 0 ≤ q
      · have hqd : decide (0 ≤ q) = true := decide_eq_true hq
        have hmq : mx 0 q = q := by unfold mx; split <;> omega
        have hqz : q < (fs.length : Int) := by omega
        obtain ⟨fd, F2, g2, eF, -, -, -, -, -, -, hf6, -, -⟩ := HFA.out q hq hqz
        subst eF
        have hfdl : (fd.add (q.toNat * 7)).block < w1.heap.size := Nat.lt_of_lt_of_le (show (fd.add (q.toNat * 7)).block < w0.heap.size from World.block_lt_of_cell? w0 ⟨(fd.add (q.toNat * 7)).block, (fd.add (q.toNat * 7)).off + 6, none⟩ hf6) HBW1.out.size
        replace hf6 := (HBW1.out.cell (World.block_lt_of_cell? w0 _ hf6)).trans hf6
        have hkb := HKB.out
        rw [hqd, Bool.true_and] at hkb
        clear HFS HFA
        cases hst : (rd_T66 fs q).f6 with
        | true =>
          rw [hst] at hkb hf6
          have htk1 := HTK.out
          rw [hkb, if_pos rfl] at htk1
          have HTK1 := Lib.hid htk1
          clear htk1 hkb hst
          obtain ⟨fn, tmps, assign, body, hy, hR⟩ := HY.out pre ⟨(x, A2, c2), hl2, HI.out, hzx⟩ w1 HJ1.out (by omega)
          dsimp only [encE] at hy
          have HR := Lib.hid hR
          clear hR
          gi_wp2_with fail
          refine HR.out.mono ?_
          rintro e w2 (⟨rfl, hj2, hk2⟩ | ⟨rfl, hjx2⟩)
          · have HJ2 := Lib.hid hj2
            have HNX2 : Hid (Below w0.heap.size W w2) := Lib.hid (HNX1.out.trans hk2.1)
            have HSZ2 : Hid (W.heap.size ≤ w2.heap.size) := Lib.hid (Nat.le_trans HSZ1.out hk2.1.size)
            have HBS2 := Lib.hid (hk2.2.trans HBS1.out)
            have HPRE : Hid ((pre ++ [(⟨(x, A2, c2), hl2, HI.out, hzx⟩ : EA w0)]).map (fun p => p.1.1) = keptL fs (l.take (k + 1))) := Lib.hid (by rw [List.map_append, hpre.out, HTK1.out]; rfl)
            clear hj2 hk2
            gi_wp2_with fail
            go_roundw
            case rel => exact ⟨k + 1, _, by omega, by go_num, HPRE, HJ2, HNX2, HSZ2, HBS2⟩
            case measure => simp [intOf]; omega
          · gi_wp2_with fail
            refine bodyPost_ret (results_none rfl _ _ _) rfl ?_
            exact ⟨⟨_, rfl⟩, .inr ⟨_, trivial, hjx2⟩⟩
        | false =>
          rw [hst] at hkb hf6
          have htk1 := HTK.out
          rw [hkb, if_neg (by decide), List.append_nil] at htk1
          have HPRE := Lib.hid (hpre.out.trans htk1.symm)
          clear htk1 hkb hst
          gi_wp2_with fail
          refine ⟨fun _ h => (by cases h), ?_⟩
          gi_wp2_with fail
          go_roundw
          case rel => exact ⟨k + 1, pre, by omega, by go_num, HPRE, HJ1, HNX1, HSZ1, HBS1⟩
          case measure => simp [intOf]; omega
      · have hqd : decide (0 ≤ q) = false := decide_eq_false hq
        have hkb := HKB.out
        rw [hqd, Bool.false_and] at hkb
        have htk1 := HTK.out
        rw [hkb, if_neg (by decide), List.append_nil] at htk1
        have HPRE := Lib.hid (hpre.out.trans htk1.symm)
        clear htk1 hkb
        gi_wp2_with fail
        refine ⟨fun _ h => (by cases h), ?_⟩
        gi_wp2_with fail
        go_roundw
        case rel => exact ⟨k + 1, pre, by omega, by go_num, HPRE, HJ1, HNX1, HSZ1, HBS1⟩
        case measure => simp [intOf]; omega
    · obtain rfl : k = l.length := by omega
      gi_wp2
      go_end0
      exact ⟨⟨_, rfl⟩, .inl ⟨pre, by rw [hpre.out, List.take_length], hjs.out⟩⟩
end Go.Proofs.YtfmholpbpghojaaDoor
