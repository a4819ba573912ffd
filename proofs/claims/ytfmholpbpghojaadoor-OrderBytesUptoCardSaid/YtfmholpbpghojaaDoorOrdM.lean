import Derived.Test.YtfmholpbpghojaaDoorOrdQ
/-! Order: Keys. -/
namespace Go.Proofs.YtfmholpbpghojaaDoor
set_option linter.unusedVariables false
set_option linter.unusedSimpArgs false
open Go.RowKit Go.Lib
open Go.Proofs.YtfmholpbpghojaaDoor.ROrderBytes
open Go.Proofs.YtfmholpbpghojaaDoorW.PrintWords

theorem run_store_func (P : Program) (w : World) (a : Addr) (m : Mode) (fn : Fn) (fi ca : Array Value) : (store a (.func fn fi ca) m).run P w = stored P w a (.func fn fi ca) m := run_store P w a _ m rfl
attribute [local go_sem] run_store_func

/-- What Keys answers. -/
def keysL : Nat → List S49 → List UInt8 → Bool → Option (List S49 × Int)
  | 0, _, _, _ => none
  | k + 1, out, s, ok =>
    if s.isEmpty = true then some (out, 0)
    else if out.length < 4398046511103 then
      if (nx s ok).1 = 0 then
        if (nx s ok).2.2 = true then keysL k (out ++ [⟨0, 0, ⟨#[]⟩⟩]) (nx s ok).2.1 true else some ([], 1)
      else if (nx s ok).1 = 1 then
        if (numL 8 0 (nx s ok).2.1 (nx s ok).2.2).2.2 = true then keysL k (out ++ [⟨1, wrap64 (numV (nx s ok).2.1 (nx s ok).2.2), ⟨#[]⟩⟩]) (numL 8 0 (nx s ok).2.1 (nx s ok).2.2).2.1 true else some ([], 1)
      else if (nx s ok).1 = 2 then
        (textL' k [] (nx s ok).2.1 (nx s ok).2.2).bind fun t => if t.2.2 = true then keysL k (out ++ [⟨2, 0, t.1⟩]) t.2.1 true else some ([], 1)
      else some ([], 1)
    else none

theorem clip_any (A : Option Addr) (n c : Nat) (hc : n ≤ c) (w : World) :
    Calls Tryd.prog 62 #[.slice A n c] w fun e w' => e = .returned (.slice A n n) ∧ w' = w := by
  go_enter Tryd.func62, Tryd.ntmps62
  go_wp2_with fail
  go_ret
  exact ⟨rfl, rfl⟩

/-- A box that was new at w1, behind calls that write at p and q alone. -/
theorem boxed {w1 w2 : World} {p q base : Nat} {v : Value} {out : List S49} {o : Obj} (ho : Kd.R k49 49 w1 base (fun k => base ≤ k) v out) (h : Wr (w1.alloc o) w2 p q) (hp : p < base) (hq : q < base) :
    Kd.R k49 49 w2 base (fun k => base ≤ k ∧ k < w1.heap.size) v out :=
  Kd.R_step (Kd.R_alloc (Kd.R_mono (Kd.R_bound ho) (fun k hk => (⟨hk.1, hk.2.2.1⟩ : base ≤ k ∧ k < w1.heap.size))) o) (fun k h1 hk => h.kept.2 k hk (by omega))
theorem boxed_set {w1 w2 : World} {base : Nat} {v : Value} {out : List S49} (ho : Kd.R k49 49 w2 base (fun k => base ≤ k ∧ k < w1.heap.size) v out) (i : Nat) (u : Value) :
    Kd.R k49 49 (w2.setCell ⟨w1.heap.size, i, none⟩ u) base (fun k => base ≤ k) v out :=
  Kd.R_mono (Kd.R_far (p := ⟨w1.heap.size, i, none⟩) ho (fun k h => by show k ≠ w1.heap.size; omega) u) (fun k h => h.1)
theorem Wr.set {w W : World} {p q g i : Nat} (h : Wr w W p q) (hp : p < w.heap.size) (hg : w.heap.size ≤ g) (u : Value) : Wr w (W.setCell ⟨g, i, none⟩ u) p q :=
  ⟨h.kept.setCell (p := ⟨g, i, none⟩) (.inr hg) u, fun b w0 h1 h2 hb => (h.below b w0 h1 h2 hb).setCell (p := ⟨g, i, none⟩) (by show b ≤ g; omega) u⟩
theorem St.set {w : World} {p q g i : Nat} {s : List UInt8} {ok : Bool} (h : St w p q s ok) (hp : p ≠ g) (hq : q ≠ g) (u : Value) : St (w.setCell ⟨g, i, none⟩ u) p q s ok :=
  ⟨blk_far h.s (p := ⟨g, i, none⟩) hp u, blk_far h.ok (p := ⟨g, i, none⟩) hq u⟩
set_option maxHeartbeats 2000000 in
set_option maxRecDepth 100000 in
theorem keys_any (k : Nat) (s : List UInt8) (w : World) (R : List S49 × Int) (hR : keysL k [] s true = some R) :
    Calls Tryd.prog 29 #[.string (bs s)] w fun e w' => (∃ A, e = .returned (.tuple #[.slice A R.1.length R.1.length, .int .i64 R.2]) ∧ Kd.C k49 w' A R.1.length R.1) ∧ Below w.heap.size w w' := by
  have HR := Lib.hid hR
  clear hR
  go_enter Tryd.func29, Tryd.ntmps29
  go_wp2_with fail
  obtain ⟨p, hp⟩ : ∃ p, p = w.heap.size := ⟨_, rfl⟩
  obtain ⟨q, hq⟩ : ∃ q, q = w.heap.size + 1 := ⟨_, rfl⟩
  obtain ⟨m, hm⟩ : ∃ m, m = w.heap.size + 1 + 1 := ⟨_, rfl⟩
  obtain ⟨W0, hW0⟩ : ∃ W0, W0 = ((w.alloc (Obj.cells #[Value.string (bs s)] 9)).alloc (Obj.cells #[Value.bool true] 4)).alloc (Obj.cells #[Value.func (Fn.func 59) #[] #[Value.pointer (some { block := w.heap.size, off := 0 }), Value.pointer (some { block := w.heap.size + 1, off := 0 })]] 98) := ⟨_, rfl⟩
  have hst0 : St W0 p q s true := by
    subst hW0 hp hq
    exact ⟨blk_alloc (blk_alloc (blk_new _ _) _) _, by have := blk_alloc (blk_new (w.alloc (Obj.cells #[Value.string (bs s)] 9)) (Obj.cells #[Value.bool true] 4)) (Obj.cells #[Value.func (Fn.func 59) #[] #[Value.pointer (some { block := w.heap.size, off := 0 }), Value.pointer (some { block := w.heap.size + 1, off := 0 })]] 98); rwa [World.size_alloc] at this⟩
  have hm0 : W0.heap[m]? = some (.cells #[nextV p q] 98 (0, 0)) := by
    subst hW0 hp hq hm
    have := blk_new ((w.alloc (Obj.cells #[Value.string (bs s)] 9)).alloc (Obj.cells #[Value.bool true] 4)) (Obj.cells #[Value.func (Fn.func 59) #[] #[Value.pointer (some { block := w.heap.size, off := 0 }), Value.pointer (some { block := w.heap.size + 1, off := 0 })]] 98)
    rwa [World.size_alloc, World.size_alloc] at this
  have hb0 : Below w.heap.size w W0 := by
    subst hW0
    exact (((Below.refl _ w).alloc (Nat.le_refl _) _).alloc (by simp) _ |>.alloc (by simp; omega) _)
  rw [← hW0, ← hm, ← hq, ← hp]
  have hmp : m ≠ p := by omega
  have hmq : m ≠ q := by omega
  have hwp : w.heap.size ≤ p := by omega
  have hwq : w.heap.size ≤ q := by omega
  have hwm : w.heap.size ≤ m := by omega
  have hpz : p < W0.heap.size := blk_lt hst0.s
  have hqz : q < W0.heap.size := blk_lt hst0.ok
  have hmz : m < W0.heap.size := blk_lt hm0
  have HST := Lib.hid hst0
  have HM := Lib.hid hm0
  have HB := Lib.hid hb0
  clear hst0 hm0 hb0 hp hq hm hW0
  go_loopg [4] k (fun kq v4 w' => ∃ (out : List S49) (s' : List UInt8) (ok' : Bool), Hid (keysL kq out s' ok' = some R) ∧ Hid (St w' p q s' ok') ∧ Hid (Wr W0 w' p q) ∧ Hid (Kd.R k49 49 w' W0.heap.size (fun k => W0.heap.size ≤ k) v4 out))
  case atStart => exact ⟨[], s, true, HR, HST, Wr.refl _ _ _, Kd.R_nil _ _ _ _ _⟩
  case round =>
    obtain ⟨out, s', ok', hr, hst, hwr, ho⟩ := hrel
    have hm2 : wr.heap[m]? = some (.cells #[nextV p q] 98 (0, 0)) := blk_kept HM.out hwr.out.kept (by rintro (h | h); exact hmp h; exact hmq h)
    have hcm : wr.cell? ⟨m, 0, none⟩ = some (nextV p q) := (blk_cell hm2 0).trans rfl
    have hcp : wr.cell? ⟨p, 0, none⟩ = some (.string (bs s')) := (blk_cell hst.out.s 0).trans rfl
    have HN := Lib.hid (next_any p q s' ok' _ hst.out)
    have HM2 := Lib.hid hm2
    have e0 := hr.out
    clear hr hm2
    unfold nextV at hcm
    cases gk with
    | zero => exact absurd e0 (by simp [keysL])
    | succ k =>
      unfold keysL at e0
      cases s' with
      | nil =>
        have es : (bs []).toList.isEmpty = true := by decide +kernel
        rw [if_pos (by rfl)] at e0
        obtain rfl := Option.some.inj e0
        obtain ⟨A, c, hv4, hlc, hC⟩ := Kd.R_reads ho.out
        subst hv4
        have HC := Lib.hid (clip_any A out.length c hlc wr)
        go_wp2_with fail
        refine HC.out.mono ?_
        rintro e w1 ⟨rfl, rfl⟩
        go_wp2_with fail
        go_ret2
        exact ⟨⟨A, rfl, hC⟩, hwr.out.below _ _ hwp hwq HB.out⟩
      | cons c s1 =>
        have es : (bs (c :: s1)).toList.isEmpty = false := by rw [ByteArray.toList_eq]; rfl
        rw [if_neg (by simp)] at e0
        by_cases hlb : out.length < 4398046511103
        · rw [if_pos hlb] at e0
          have HL := Lib.hid hlb
          clear hlb
          generalize hnx : nx (c :: s1) ok' = r1 at *
          obtain ⟨c', s2, o1⟩ := r1
          dsimp only at *
          by_cases hc : c' = 0
          · rw [if_pos hc] at e0
            subst hc
            cases o1 with
            | false =>
              rw [if_neg (by decide)] at e0
              obtain rfl := Option.some.inj e0
              go_wp2_with (first | (go_at_call 59; refine HN.out.mono ?_; rintro e w1 ⟨rfl, hst1, hwr1⟩; have hcq1 : w1.cell? ⟨q, 0, none⟩ = some (.bool _) := (blk_cell hst1.ok 0).trans rfl; have hfq1 : w1.frozen? ⟨q, 0, none⟩ = false := blk_frozen hst1.ok 0; have hqz1 : q < w1.heap.size := blk_lt hst1.ok; have hm1 : w1.heap[m]? = some (.cells #[nextV p q] 98 (0, 0)) := blk_kept HM2.out hwr1.kept (by rintro (h | h); exact hmp h; exact hmq h); have HM1 := Lib.hid hm1; have HST1 := Lib.hid hst1; have HG1 := Lib.hid (hwr.out.trans hwr1); have HO1 := Lib.hid (Kd.R_step ho.out (fun k (h1 : W0.heap.size ≤ k) hk => hwr1.kept.2 k hk (by omega))); clear hst1 hwr1 hm1))
              go_ret2
              exact ⟨⟨none, rfl, Kd.C_nil _ _⟩, (HG1.out.below _ _ hwp hwq HB.out).alloc (by have := HG1.out.kept.1; omega) _⟩
            | true =>
              rw [if_pos rfl] at e0
              have HE := Lib.hid e0
              clear e0
              go_wp2_with (first | (go_at_call 59; refine HN.out.mono ?_; rintro e w1 ⟨rfl, hst1, hwr1⟩; have hcq1 : w1.cell? ⟨q, 0, none⟩ = some (.bool _) := (blk_cell hst1.ok 0).trans rfl; have hfq1 : w1.frozen? ⟨q, 0, none⟩ = false := blk_frozen hst1.ok 0; have hqz1 : q < w1.heap.size := blk_lt hst1.ok; have hm1 : w1.heap[m]? = some (.cells #[nextV p q] 98 (0, 0)) := blk_kept HM2.out hwr1.kept (by rintro (h | h); exact hmp h; exact hmq h); have HM1 := Lib.hid hm1; have HST1 := Lib.hid hst1; have HG1 := Lib.hid (hwr.out.trans hwr1); have HO1 := Lib.hid (Kd.R_step ho.out (fun k (h1 : W0.heap.size ≤ k) hk => hwr1.kept.2 k hk (by omega))); clear hst1 hwr1 hm1) | (at_builtin; refine Kd.R_append k49 (w0 := _) W0.heap.size rfl (.tmp 36) (.tmp 38) 56 49 (.agg #[.int .i64 0, .int .i64 0, .string ⟨#[]⟩]) 32 rfl Tryd.underlying56 info49 rfl (by decide) (by omega) u4 out ⟨0, 0, ⟨#[]⟩⟩ _ (fun k => W0.heap.size ≤ k) (fun _ => False) rfl (by rw [World.size_alloc]; rfl) (k49_mkM _ _ _ _) (fun _ hk => hk.elim) (fun k hk => Nat.le_trans (Wr.alloc HG1.out hpz (.cells #[.int .i64 0, .int .i64 0, .string ⟨#[]⟩] 49)).kept.1 hk) (Kd.R_alloc HO1.out _) (Below.refl _ _) (Wr.alloc HG1.out hpz (.cells #[.int .i64 0, .int .i64 0, .string ⟨#[]⟩] 49)).kept.1 (by have := HL.out; omega) ?_; intro v3 w3 ho3 hb3 hg3 hat3; have HO3 := Lib.hid ho3; have HG3 := Lib.hid hg3; clear ho3 hb3 hg3 hat3))
              go_roundg k
              case measure => omega
              case rel =>
                have RB := Kd.R_alloc HO1.out (.cells #[.int .i64 0, .int .i64 0, .string ⟨#[]⟩] 49)
                have SB := St.alloc HST1.out (.cells #[.int .i64 0, .int .i64 0, .string ⟨#[]⟩] 49)
                exact ⟨_, _, _, HE, SB.grown HG3.out (Kd.R_ne RB SB.s (by decide)) (Kd.R_ne RB SB.ok (by decide)), (Wr.alloc HG1.out hpz _).grown HG3.out hpz (fun k hk => RB.1 k hk), HO3⟩
          · rw [if_neg hc] at e0
            by_cases hc1 : c' = 1
            · rw [if_pos hc1] at e0
              subst hc1
              clear hc
              cases hk8 : (numL 8 0 s2 o1).2.2 with
              | false =>
                rw [hk8, if_neg (by decide)] at e0
                obtain rfl := Option.some.inj e0
                have HK := Lib.hid hk8
                clear hk8
                go_wp2_with (first | (go_at_call 59; refine HN.out.mono ?_; rintro e w1 ⟨rfl, hst1, hwr1⟩; have hcq1 : w1.cell? ⟨q, 0, none⟩ = some (.bool _) := (blk_cell hst1.ok 0).trans rfl; have hfq1 : w1.frozen? ⟨q, 0, none⟩ = false := blk_frozen hst1.ok 0; have hqz1 : q < w1.heap.size := blk_lt hst1.ok; have hm1 : w1.heap[m]? = some (.cells #[nextV p q] 98 (0, 0)) := blk_kept HM2.out hwr1.kept (by rintro (h | h); exact hmp h; exact hmq h); have HM1 := Lib.hid hm1; have HST1 := Lib.hid hst1; have HG1 := Lib.hid (hwr.out.trans hwr1); have HO1 := Lib.hid (Kd.R_step ho.out (fun k (h1 : W0.heap.size ≤ k) hk => hwr1.kept.2 k hk (by omega))); have hz1 : W0.heap.size ≤ w1.heap.size := HG1.out.kept.1; clear hst1 hwr1 hm1))
                refine (number_any p q m s2 o1 _ (St.alloc HST1.out (.cells #[.int .i64 1, .int .i64 0, .string ⟨#[]⟩] 49)) (blk_alloc HM1.out (.cells #[.int .i64 1, .int .i64 0, .string ⟨#[]⟩] 49))).mono ?_
                rintro e w2 ⟨rfl, hst2, hwr2⟩
                rw [HK.out] at hst2
                have hbx : w2.heap[w1.heap.size]? = some (.cells #[.int .i64 1, .int .i64 0, .string ⟨#[]⟩] 49 (0, 0)) := blk_kept (blk_new w1 _) hwr2.kept (by rintro (h | h) <;> omega)
                have hz2 : w1.heap.size < w2.heap.size := blk_lt hbx
                have hb0 : w2.cell? ⟨w1.heap.size, 0, none⟩ = some (.int .i64 1) := (blk_cell hbx 0).trans rfl
                have hb1 : w2.cell? ⟨w1.heap.size, 1, none⟩ = some (.int .i64 0) := (blk_cell hbx 1).trans rfl
                have hb2 : w2.cell? ⟨w1.heap.size, 2, none⟩ = some (.string ⟨#[]⟩) := (blk_cell hbx 2).trans rfl
                have hf1 : w2.frozen? ⟨w1.heap.size, 1, none⟩ = false := blk_frozen hbx 1
                have hf2 : w2.frozen? ⟨w1.heap.size, 2, none⟩ = false := blk_frozen hbx 2
                have hcq2 : w2.cell? ⟨q, 0, none⟩ = some (.bool _) := (blk_cell hst2.ok 0).trans rfl
                have hqn : q ≠ w1.heap.size := by omega
                have hqn' : w1.heap.size ≠ q := by omega
                have HST2 := Lib.hid hst2
                have HO2 := Lib.hid (boxed HO1.out hwr2 hpz hqz)
                have HG2 := Lib.hid ((Wr.alloc HG1.out hpz (.cells #[.int .i64 1, .int .i64 0, .string ⟨#[]⟩] 49)).trans hwr2)
                clear hst2 hwr2 hbx
                go_wp2_with fail
                go_ret2
                exact ⟨⟨none, rfl, Kd.C_nil _ _⟩, (HG2.out.set hpz hz1 (i := 1) (.int .i64 (wrap64 (numV s2 o1)))).below _ _ hwp hwq HB.out⟩
              | true =>
                rw [hk8, if_pos rfl] at e0
                have HE := Lib.hid e0
                have HK := Lib.hid hk8
                clear hk8 e0
                go_wp2_with (first | (go_at_call 59; refine HN.out.mono ?_; rintro e w1 ⟨rfl, hst1, hwr1⟩; have hcq1 : w1.cell? ⟨q, 0, none⟩ = some (.bool _) := (blk_cell hst1.ok 0).trans rfl; have hfq1 : w1.frozen? ⟨q, 0, none⟩ = false := blk_frozen hst1.ok 0; have hqz1 : q < w1.heap.size := blk_lt hst1.ok; have hm1 : w1.heap[m]? = some (.cells #[nextV p q] 98 (0, 0)) := blk_kept HM2.out hwr1.kept (by rintro (h | h); exact hmp h; exact hmq h); have HM1 := Lib.hid hm1; have HST1 := Lib.hid hst1; have HG1 := Lib.hid (hwr.out.trans hwr1); have HO1 := Lib.hid (Kd.R_step ho.out (fun k (h1 : W0.heap.size ≤ k) hk => hwr1.kept.2 k hk (by omega))); have hz1 : W0.heap.size ≤ w1.heap.size := HG1.out.kept.1; clear hst1 hwr1 hm1))
                refine (number_any p q m s2 o1 _ (St.alloc HST1.out (.cells #[.int .i64 1, .int .i64 0, .string ⟨#[]⟩] 49)) (blk_alloc HM1.out (.cells #[.int .i64 1, .int .i64 0, .string ⟨#[]⟩] 49))).mono ?_
                rintro e w2 ⟨rfl, hst2, hwr2⟩
                rw [HK.out] at hst2
                have hbx : w2.heap[w1.heap.size]? = some (.cells #[.int .i64 1, .int .i64 0, .string ⟨#[]⟩] 49 (0, 0)) := blk_kept (blk_new w1 _) hwr2.kept (by rintro (h | h) <;> omega)
                have hz2 : w1.heap.size < w2.heap.size := blk_lt hbx
                have hb0 : w2.cell? ⟨w1.heap.size, 0, none⟩ = some (.int .i64 1) := (blk_cell hbx 0).trans rfl
                have hb1 : w2.cell? ⟨w1.heap.size, 1, none⟩ = some (.int .i64 0) := (blk_cell hbx 1).trans rfl
                have hb2 : w2.cell? ⟨w1.heap.size, 2, none⟩ = some (.string ⟨#[]⟩) := (blk_cell hbx 2).trans rfl
                have hf1 : w2.frozen? ⟨w1.heap.size, 1, none⟩ = false := blk_frozen hbx 1
                have hf2 : w2.frozen? ⟨w1.heap.size, 2, none⟩ = false := blk_frozen hbx 2
                have hcq2 : w2.cell? ⟨q, 0, none⟩ = some (.bool _) := (blk_cell hst2.ok 0).trans rfl
                have hqn : q ≠ w1.heap.size := by omega
                have hqn' : w1.heap.size ≠ q := by omega
                have HST2 := Lib.hid hst2
                have HO2 := Lib.hid (boxed HO1.out hwr2 hpz hqz)
                have HG2 := Lib.hid ((Wr.alloc HG1.out hpz (.cells #[.int .i64 1, .int .i64 0, .string ⟨#[]⟩] 49)).trans hwr2)
                clear hst2 hwr2 hbx
                go_wp2_with (at_builtin; refine Kd.R_append k49 (w0 := _) W0.heap.size rfl (.tmp 36) (.tmp 38) 56 49 (.agg #[.int .i64 0, .int .i64 0, .string ⟨#[]⟩]) 32 rfl Tryd.underlying56 info49 rfl (by decide) (by omega) u4 out ⟨1, wrap64 (numV s2 o1), ⟨#[]⟩⟩ _ (fun k => W0.heap.size ≤ k) (fun _ => False) rfl (by first | rfl | (rw [World.size_setCell]; rfl)) (k49_mkM _ _ _ _) (fun _ hk => hk.elim) (fun k hk => Nat.le_trans (HG2.out.set hpz hz1 (i := 1) (.int .i64 (wrap64 (numV s2 o1)))).kept.1 hk) (boxed_set HO2.out 1 (.int .i64 (wrap64 (numV s2 o1)))) (Below.refl _ _) (HG2.out.set hpz hz1 (i := 1) (.int .i64 (wrap64 (numV s2 o1)))).kept.1 (by have := HL.out; omega) ?_; intro v3 w3 ho3 hb3 hg3 hat3; have HO3 := Lib.hid ho3; have HG3 := Lib.hid hg3; clear ho3 hb3 hg3 hat3)
                go_roundg k
                case measure => omega
                case rel =>
                  have RB := boxed_set HO2.out 1 (.int .i64 (wrap64 (numV s2 o1)))
                  have SB := St.set (i := 1) HST2.out (by omega) hqn (.int .i64 (wrap64 (numV s2 o1)))
                  exact ⟨_, _, _, HE, SB.grown HG3.out (Kd.R_ne RB SB.s (by decide)) (Kd.R_ne RB SB.ok (by decide)), (HG2.out.set hpz hz1 (.int .i64 (wrap64 (numV s2 o1)))).grown HG3.out hpz (fun k hk => RB.1 k hk), HO3⟩
            · rw [if_neg hc1] at e0
              by_cases hc2 : c' = 2
              · rw [if_pos hc2] at e0
                subst hc2
                clear hc hc1
                obtain ⟨⟨tx, s3, o3⟩, ht, e1⟩ := Option.bind_eq_some_iff.1 e0
                dsimp only at e1
                have HT := Lib.hid ht
                clear e0 ht
                cases o3 with
                | false =>
                  rw [if_neg (by decide)] at e1
                  obtain rfl := Option.some.inj e1
                  go_wp2_with (first | (go_at_call 59; refine HN.out.mono ?_; rintro e w1 ⟨rfl, hst1, hwr1⟩; have hcq1 : w1.cell? ⟨q, 0, none⟩ = some (.bool _) := (blk_cell hst1.ok 0).trans rfl; have hfq1 : w1.frozen? ⟨q, 0, none⟩ = false := blk_frozen hst1.ok 0; have hqz1 : q < w1.heap.size := blk_lt hst1.ok; have hm1 : w1.heap[m]? = some (.cells #[nextV p q] 98 (0, 0)) := blk_kept HM2.out hwr1.kept (by rintro (h | h); exact hmp h; exact hmq h); have HM1 := Lib.hid hm1; have HST1 := Lib.hid hst1; have HG1 := Lib.hid (hwr.out.trans hwr1); have HO1 := Lib.hid (Kd.R_step ho.out (fun k (h1 : W0.heap.size ≤ k) hk => hwr1.kept.2 k hk (by omega))); have hz1 : W0.heap.size ≤ w1.heap.size := HG1.out.kept.1; clear hst1 hwr1 hm1))
                  refine (text_any' k p q m s2 o1 _ (St.alloc HST1.out (.cells #[.int .i64 2, .int .i64 0, .string ⟨#[]⟩] 49)) (blk_alloc HM1.out (.cells #[.int .i64 2, .int .i64 0, .string ⟨#[]⟩] 49)) _ HT.out).mono ?_
                  rintro e w2 ⟨rfl, hst2, hwr2⟩
                  have hbx : w2.heap[w1.heap.size]? = some (.cells #[.int .i64 2, .int .i64 0, .string ⟨#[]⟩] 49 (0, 0)) := blk_kept (blk_new w1 _) hwr2.kept (by rintro (h | h) <;> omega)
                  have hz2 : w1.heap.size < w2.heap.size := blk_lt hbx
                  have hb0 : w2.cell? ⟨w1.heap.size, 0, none⟩ = some (.int .i64 2) := (blk_cell hbx 0).trans rfl
                  have hb1 : w2.cell? ⟨w1.heap.size, 1, none⟩ = some (.int .i64 0) := (blk_cell hbx 1).trans rfl
                  have hb2 : w2.cell? ⟨w1.heap.size, 2, none⟩ = some (.string ⟨#[]⟩) := (blk_cell hbx 2).trans rfl
                  have hf1 : w2.frozen? ⟨w1.heap.size, 1, none⟩ = false := blk_frozen hbx 1
                  have hf2 : w2.frozen? ⟨w1.heap.size, 2, none⟩ = false := blk_frozen hbx 2
                  have hcq2 : w2.cell? ⟨q, 0, none⟩ = some (.bool _) := (blk_cell hst2.ok 0).trans rfl
                  have hqn : q ≠ w1.heap.size := by omega
                  have hqn' : w1.heap.size ≠ q := by omega
                  have HST2 := Lib.hid hst2
                  have HO2 := Lib.hid (boxed HO1.out hwr2 hpz hqz)
                  have HG2 := Lib.hid ((Wr.alloc HG1.out hpz (.cells #[.int .i64 2, .int .i64 0, .string ⟨#[]⟩] 49)).trans hwr2)
                  clear hst2 hwr2 hbx
                  go_wp2_with fail
                  go_ret2
                  exact ⟨⟨none, rfl, Kd.C_nil _ _⟩, (HG2.out.set hpz hz1 (i := 2) (.string tx)).below _ _ hwp hwq HB.out⟩
                | true =>
                  rw [if_pos rfl] at e1
                  have HE := Lib.hid e1
                  clear e1
                  go_wp2_with (first | (go_at_call 59; refine HN.out.mono ?_; rintro e w1 ⟨rfl, hst1, hwr1⟩; have hcq1 : w1.cell? ⟨q, 0, none⟩ = some (.bool _) := (blk_cell hst1.ok 0).trans rfl; have hfq1 : w1.frozen? ⟨q, 0, none⟩ = false := blk_frozen hst1.ok 0; have hqz1 : q < w1.heap.size := blk_lt hst1.ok; have hm1 : w1.heap[m]? = some (.cells #[nextV p q] 98 (0, 0)) := blk_kept HM2.out hwr1.kept (by rintro (h | h); exact hmp h; exact hmq h); have HM1 := Lib.hid hm1; have HST1 := Lib.hid hst1; have HG1 := Lib.hid (hwr.out.trans hwr1); have HO1 := Lib.hid (Kd.R_step ho.out (fun k (h1 : W0.heap.size ≤ k) hk => hwr1.kept.2 k hk (by omega))); have hz1 : W0.heap.size ≤ w1.heap.size := HG1.out.kept.1; clear hst1 hwr1 hm1))
                  refine (text_any' k p q m s2 o1 _ (St.alloc HST1.out (.cells #[.int .i64 2, .int .i64 0, .string ⟨#[]⟩] 49)) (blk_alloc HM1.out (.cells #[.int .i64 2, .int .i64 0, .string ⟨#[]⟩] 49)) _ HT.out).mono ?_
                  rintro e w2 ⟨rfl, hst2, hwr2⟩
                  have hbx : w2.heap[w1.heap.size]? = some (.cells #[.int .i64 2, .int .i64 0, .string ⟨#[]⟩] 49 (0, 0)) := blk_kept (blk_new w1 _) hwr2.kept (by rintro (h | h) <;> omega)
                  have hz2 : w1.heap.size < w2.heap.size := blk_lt hbx
                  have hb0 : w2.cell? ⟨w1.heap.size, 0, none⟩ = some (.int .i64 2) := (blk_cell hbx 0).trans rfl
                  have hb1 : w2.cell? ⟨w1.heap.size, 1, none⟩ = some (.int .i64 0) := (blk_cell hbx 1).trans rfl
                  have hb2 : w2.cell? ⟨w1.heap.size, 2, none⟩ = some (.string ⟨#[]⟩) := (blk_cell hbx 2).trans rfl
                  have hf1 : w2.frozen? ⟨w1.heap.size, 1, none⟩ = false := blk_frozen hbx 1
                  have hf2 : w2.frozen? ⟨w1.heap.size, 2, none⟩ = false := blk_frozen hbx 2
                  have hcq2 : w2.cell? ⟨q, 0, none⟩ = some (.bool _) := (blk_cell hst2.ok 0).trans rfl
                  have hqn : q ≠ w1.heap.size := by omega
                  have hqn' : w1.heap.size ≠ q := by omega
                  have HST2 := Lib.hid hst2
                  have HO2 := Lib.hid (boxed HO1.out hwr2 hpz hqz)
                  have HG2 := Lib.hid ((Wr.alloc HG1.out hpz (.cells #[.int .i64 2, .int .i64 0, .string ⟨#[]⟩] 49)).trans hwr2)
                  clear hst2 hwr2 hbx
                  go_wp2_with (at_builtin; refine Kd.R_append k49 (w0 := _) W0.heap.size rfl (.tmp 36) (.tmp 38) 56 49 (.agg #[.int .i64 0, .int .i64 0, .string ⟨#[]⟩]) 32 rfl Tryd.underlying56 info49 rfl (by decide) (by omega) u4 out ⟨2, 0, tx⟩ _ (fun k => W0.heap.size ≤ k) (fun _ => False) rfl (by first | rfl | (rw [World.size_setCell]; rfl)) (k49_mkM _ _ _ _) (fun _ hk => hk.elim) (fun k hk => Nat.le_trans (HG2.out.set hpz hz1 (i := 2) (.string tx)).kept.1 hk) (boxed_set HO2.out 2 (.string tx)) (Below.refl _ _) (HG2.out.set hpz hz1 (i := 2) (.string tx)).kept.1 (by have := HL.out; omega) ?_; intro v3 w3 ho3 hb3 hg3 hat3; have HO3 := Lib.hid ho3; have HG3 := Lib.hid hg3; clear ho3 hb3 hg3 hat3)
                  go_roundg k
                  case measure => omega
                  case rel =>
                    have RB := boxed_set HO2.out 2 (.string tx)
                    have SB := St.set (i := 2) HST2.out (by omega) hqn (.string tx)
                    exact ⟨_, _, _, HE, SB.grown HG3.out (Kd.R_ne RB SB.s (by decide)) (Kd.R_ne RB SB.ok (by decide)), (HG2.out.set hpz hz1 (.string tx)).grown HG3.out hpz (fun k hk => RB.1 k hk), HO3⟩
              · rw [if_neg hc2] at e0
                obtain rfl := Option.some.inj e0
                have ha0 : ((c'.toNat : Int) == 0) = false := by
                  rw [beq_eq_false_iff_ne]
                  intro h
                  exact hc (UInt8.toNat_inj.1 (by have : (0 : UInt8).toNat = 0 := rfl; omega))
                have ha1 : ((c'.toNat : Int) == 1) = false := by
                  rw [beq_eq_false_iff_ne]
                  intro h
                  exact hc1 (UInt8.toNat_inj.1 (by have : (1 : UInt8).toNat = 1 := rfl; omega))
                have ha2 : ((c'.toNat : Int) == 2) = false := by
                  rw [beq_eq_false_iff_ne]
                  intro h
                  exact hc2 (UInt8.toNat_inj.1 (by have : (2 : UInt8).toNat = 2 := rfl; omega))
                have hw : wrap64 (c'.toNat : Int) = c'.toNat := by
                  have := c'.toNat_lt
                  unfold wrap64
                  omega
                go_wp2_with (first | (go_at_call 59; refine HN.out.mono ?_; rintro e w1 ⟨rfl, hst1, hwr1⟩; have hcq1 : w1.cell? ⟨q, 0, none⟩ = some (.bool _) := (blk_cell hst1.ok 0).trans rfl; have hfq1 : w1.frozen? ⟨q, 0, none⟩ = false := blk_frozen hst1.ok 0; have hqz1 : q < w1.heap.size := blk_lt hst1.ok; have hm1 : w1.heap[m]? = some (.cells #[nextV p q] 98 (0, 0)) := blk_kept HM2.out hwr1.kept (by rintro (h | h); exact hmp h; exact hmq h); have HM1 := Lib.hid hm1; have HST1 := Lib.hid hst1; have HG1 := Lib.hid (hwr.out.trans hwr1); have HO1 := Lib.hid (Kd.R_step ho.out (fun k (h1 : W0.heap.size ≤ k) hk => hwr1.kept.2 k hk (by omega))); have hz1 : W0.heap.size ≤ w1.heap.size := HG1.out.kept.1; clear hst1 hwr1 hm1))
                go_ret2
                exact ⟨⟨none, rfl, Kd.C_nil _ _⟩, ((HG1.out.below _ _ hwp hwq HB.out).setCell (p := ⟨q, 0, none⟩) hwq (.bool false)).alloc (by rw [World.size_setCell]; have := HG1.out.kept.1; omega) _⟩
        · rw [if_neg hlb] at e0
          exact absurd e0 (by simp)
end Go.Proofs.YtfmholpbpghojaaDoor
