import Derived.Test.YtfmholpbpghojaaDoorSchS
/-! schema.kept, schema.Stored. -/
namespace Go.Proofs.YtfmholpbpghojaaDoor
set_option linter.unusedVariables false
set_option linter.unusedSimpArgs false
open Go.RowKit Go.Lib
open Go.Proofs.YtfmholpbpghojaaDoor.RSchemaChecks
open Go.Proofs.YtfmholpbpghojaaDoorW.PrintWords

attribute [local go_sem] Oper.semAt_some

/-- A block is none of a row's, by its address and its type. -/
theorem R_apart {α : Type} {d : Kd α} {e : Nat} {w : World} {base : Nat} {ok : Nat → Prop} {v : Value} {xs : List α} (h : d.R e w base ok v xs) {g t : Nat} {cells : Array Value} (hb : w.heap[g]? = some (.cells cells t (0, 0))) (hne : some g ≠ v.ownBlock) (ht : ∀ q, q ∈ d.E → q ≠ t) : d.R e w base (fun k => ok k ∧ k ≠ g) v xs :=
  ⟨fun k hk => ⟨h.1 k hk, by rintro rfl; exact hne hk.symm⟩, h.2.imp_ (fun _ _ hp => d.M_mono (fun _ hk => ⟨⟨hk.1.1, hk.2⟩, hk.1.2⟩) (Kd.M_types hp hb ht))⟩
theorem kept_any (A B : Option Addr) (na nb ca cb : Nat) (w : World) :
    Calls Tryd.prog 43 #[.agg #[.slice A na ca], .agg #[.slice B nb cb]] w fun e w' =>
      e = .returned (.func (.func 67) #[] #[.pointer (some ⟨w.heap.size + 1, 0, none⟩), .pointer (some ⟨w.heap.size, 0, none⟩)]) ∧ w' = (w.alloc (.cells #[.slice A na ca] 24)).alloc (.cells #[.slice B nb cb] 27) := by
  go_enter Tryd.func43, Tryd.ntmps43
  go_wp2_with fail
  go_ret
  exact ⟨rfl, rfl⟩
theorem kept_stops (n : Nat) (hn : 1 ≤ n) (fs : List S66) (l : List S75) (A B : Option Addr) (ca cb : Nat) (w0 W0 : World) (Bd Bs : Nat)
    (hfs : Kd.C k66 w0 A fs.length fs) (hl : Kd.C k75 w0 B l.length l) (hz : ∀ x ∈ l, x.f2.length < 17592186044000) (hzl : l.length < 2 ^ 60)
    (hW0 : Below w0.heap.size w0 W0) (hBd : W0.heap[Bd]? = some (.cells #[.slice B l.length cb] 27 (0, 0))) (hBs : W0.heap[Bs]? = some (.cells #[.slice A fs.length ca] 24 (0, 0))) :
    SeqStopsK Fence.wide n Tryd.prog 67 #[.pointer (some ⟨Bd, 0, none⟩), .pointer (some ⟨Bs, 0, none⟩)] (encE (w0 := w0)) (KpB w0.heap.size Bs) (fun ys => ys.map (fun p => p.1.1) = keptL fs l) (fun _ => True) l.length W0 :=
  fun ll J Jx W hW hJ _ hY h0 => kept1_in n hn fs l A B ca cb w0 Bd Bs hfs hl hz hzl ll J Jx W (hW0.trans (hW.mono hW0.size)) (blk_below hBd hW) (blk_below hBs hW) hJ hY h0
theorem infoEntry : (Tryd.prog.info? 75).map (fun i => (i.zero, i.size, i.bytes)) = some (some (.agg #[.string ⟨#[]⟩, .string ⟨#[]⟩, .slice none 0 0]), 3, 56) := by kernel_rfl
set_option maxHeartbeats 4000000 in
set_option maxRecDepth 100000 in
theorem stored_any (fs : List S66) (l : List S75) (A B : Option Addr) (ca cb : Nat) (w : World)
    (hfs : Kd.C k66 w A fs.length fs) (hl : Kd.C k75 w B l.length l) (hz : ∀ x ∈ l, x.f2.length < 17592186044000) (hzl : l.length < 1099511627776) :
    Calls Tryd.prog 17 #[.agg #[.slice A fs.length ca], .agg #[.slice B l.length cb]] w fun e w' =>
      ∃ v, e = .returned v ∧ Kd.R k75 75 w' w.heap.size (fun k => w.heap.size ≤ k) v (keptL fs l) ∧ Below w.heap.size w w' := by
  refine (callsIn_wide (n := 3)).1 ?_
  refine callsIn_of_wp_marks Tryd.func17 rfl trivial ?_ rfl
  simp only [Tryd.ntmps17, List.size_toArray, List.length_cons, List.length_nil, Nat.reduceAdd, Nat.reduceSub, Array.replicate_succ, Array.replicate_zero, List.push_toArray, List.append_toArray, List.nil_append, List.cons_append]
  gi_wp2_with fail
  refine ⟨trivial, (callsIn_wide.2 (kept_any A B fs.length l.length ca cb _)).mono ?_⟩
  rintro e w' ⟨rfl, rfl⟩
  simp only [World.size_alloc]
  have hfs0 := hfs
  have hl0 := hl
  obtain ⟨W0, hW0⟩ : ∃ W0, ((((w.alloc (Obj.cells #[Value.slice A fs.length ca] 24)).alloc (Obj.cells #[Value.slice B l.length cb] 27)).alloc (Obj.cells #[Value.slice none 0 0] 25)).alloc (Obj.cells #[Value.slice A fs.length ca] 24)).alloc (Obj.cells #[Value.slice B l.length cb] 27) = W0 := ⟨_, rfl⟩
  have hsz : W0.heap.size = w.heap.size + 5 := by subst hW0; simp only [World.size_alloc]
  have hB0 : Below w.heap.size w W0 := by subst hW0; exact (((((Below.refl _ w).alloc (Nat.le_refl _) _).alloc (by simp only [World.size_alloc]; omega) _).alloc (by simp only [World.size_alloc]; omega) _).alloc (by simp only [World.size_alloc]; omega) _).alloc (by simp only [World.size_alloc]; omega) _
  have bO : Boxed W0 (w.heap.size + 2) 25 (.slice none 0 0) := by
    subst hW0
    have := ((Boxed.new ((w.alloc (Obj.cells #[Value.slice A fs.length ca] 24)).alloc (Obj.cells #[Value.slice B l.length cb] 27)) 25 (.slice none 0 0)).alloc (Obj.cells #[Value.slice A fs.length ca] 24)).alloc (Obj.cells #[Value.slice B l.length cb] 27)
    simpa only [World.size_alloc] using this
  have bS : Boxed W0 (w.heap.size + 3) 24 (.slice A fs.length ca) := by
    subst hW0
    have := (Boxed.new (((w.alloc (Obj.cells #[Value.slice A fs.length ca] 24)).alloc (Obj.cells #[Value.slice B l.length cb] 27)).alloc (Obj.cells #[Value.slice none 0 0] 25)) 24 (.slice A fs.length ca)).alloc (Obj.cells #[Value.slice B l.length cb] 27)
    simpa only [World.size_alloc] using this
  have bD : Boxed W0 (w.heap.size + 4) 27 (.slice B l.length cb) := by
    subst hW0
    have := Boxed.new ((((w.alloc (Obj.cells #[Value.slice A fs.length ca] 24)).alloc (Obj.cells #[Value.slice B l.length cb] 27)).alloc (Obj.cells #[Value.slice none 0 0] 25)).alloc (Obj.cells #[Value.slice A fs.length ca] 24)) 27 (.slice B l.length cb)
    simpa only [World.size_alloc] using this
  rw [hW0]
  clear hW0
  gi_wp2_with fail
  refine wpIn_rangeFunc_ownH rfl (by omega) (gf := 67) (lb := #[.pointer (some ⟨w.heap.size + 4, 0, none⟩), .pointer (some ⟨w.heap.size + 3, 0, none⟩)]) rfl trivial (enters_of Tryd.func67 (by kernel_rfl) rfl)
    (kept_stops (3 - 1) (by omega) fs l A B ca cb w W0 (w.heap.size + 4) (w.heap.size + 3) hfs hl hz (by omega) hB0 bD bS) KpB.trans' (fun W l' o o' h1 h2 h3 h4 => ⟨belowK_b (w := W0) (by omega) W l' o o' h1 h2 h3 h4, World.putObj_heap_other (by omega)⟩) (Below.refl _ _) (fun _ => rfl)
    (fun pre W => (∃ v, Boxed W (w.heap.size + 2) 25 v ∧ Kd.R k75 75 W w.heap.size (fun k => w.heap.size + 5 ≤ k) v (pre.map (fun p => p.1.1))) ∧ (Below w.heap.size w W ∧ w.heap.size + 5 ≤ W.heap.size))
    (fun _ _ _ => False)
    (OwnFrom.and (Own.from (fun s X Y row hs hg hr => by obtain ⟨v, b1, r1⟩ := hs; exact ⟨v, boxed_own _ _ (fun (_ : Unit) => v) () X Y row b1 hg hr, R_kept r1 hg hr⟩) _) (OwnFrom.and (ownFrom_below (Nat.le_refl _) (by omega)) (fun _ X Y row hs hg hr => Nat.le_trans hs hg.size)))
    (fun _ _ _ _ _ hs _ _ => hs)
    ⟨⟨_, bO, Kd.R_nil _ _ _ _ _⟩, hB0, by omega⟩
    (fun x a' W => ∃ Bx v, w.heap.size + 4 < Bx ∧ W.heap[Bx]? = some (.cells #[.string x.1.1.f0, .string x.1.1.f1, .slice x.1.2.1 x.1.1.f2.length x.1.2.2] 75 (0, 0)) ∧ Boxed W (w.heap.size + 2) 25 v ∧ some Bx ≠ v.ownBlock ∧ a' = { tmps := #[.agg #[.slice A fs.length ca], .agg #[.slice B l.length cb], .pointer (some ⟨w.heap.size, 0, none⟩), .pointer (some ⟨w.heap.size + 1, 0, none⟩), .slice none 0 0, .pointer (some ⟨w.heap.size + 2, 0, none⟩), .pointer (some ⟨Bx, 0, none⟩), .agg #[.slice A fs.length ca], .agg #[.slice B l.length cb], .func (.func 67) #[] #[.pointer (some ⟨w.heap.size + 4, 0, none⟩), .pointer (some ⟨w.heap.size + 3, 0, none⟩)], .agg #[.string x.1.1.f0, .string x.1.1.f1, .slice x.1.2.1 x.1.1.f2.length x.1.2.2], undef, undef, undef, undef, undef, undef, undef, undef, undef], defers := [] })
    (fun x a' _ X Y row hs hg hr => by
      obtain ⟨Bx, v, h1, h2, h3, h4, h5⟩ := hs
      refine ⟨Bx, v, h1, ?_, boxed_own _ _ (fun (_ : Unit) => v) () X Y row h3 hg (fun r e => (hr r e).2), h4, h5⟩
      refine (hg.block Bx (blk_lt h2) (fun e => ?_)).trans h2
      obtain ⟨_, o, ho, hc⟩ := hr Bx e.symm
      rw [h2] at ho
      cases ho
      cases hc)
    ?assign ?body ?done ?stop
  case assign =>
    rintro l' pre x W K ⟨⟨v, b1, r1⟩, hB1, hz1⟩ hK
    dsimp only [encE]
    gi_wp2
    have hvl : ∀ k, v.ownBlock = some k → k < W.heap.size := Kd.R_lt r1
    refine hK _ _ ((KeepsOthers.alloc _ _).from _) ⟨(Below.refl _ W).alloc hB1.size _, ((Below.refl W.heap.size W).alloc (Nat.le_refl _) _).block _ (by omega)⟩ ⟨⟨v, b1.alloc _, Kd.R_alloc r1 _⟩, hB1.alloc hB1.size _, by rw [World.size_alloc]; omega⟩ ⟨W.heap.size, v, by omega, blk_new _ _, b1.alloc _, fun e => by have := hvl _ e.symm; omega, rfl⟩
  case body =>
    rintro l' pre x a' W hl' ⟨r, hr⟩ ⟨⟨v, b1, r1⟩, hB1, hz1⟩ ⟨Bx, v', hBx, bX, b1', hne, rfl⟩ hlt
    have hvv : v' = v := by
      have e := b1'.symm.trans b1
      simpa using e
    subst hvv
    have r2 := R_apart r1 bX hne (fun q hq => by simp [k75, Kd.iso, Kd.pair, Kd.string, Kd.scalar, Kd.slice, Kd.int] at hq; subst hq; decide)
    have HX := Lib.hid x.2
    have hxn := HX.out.1
    have hBl : Bx < W.heap.size := blk_lt bX
    have hOl : w.heap.size + 2 < W.heap.size := b1.lt
    have hx2 : W.cell? ⟨Bx, 2, none⟩ = some (.slice x.1.2.1 x.1.1.f2.length x.1.2.2) := (blk_cell bX 2).trans rfl
    have HC := Lib.hid (clone_any x.1.1.f2 x.1.2.1 x.1.2.2 W (Kd.C_below HX.out.2.1 hB1) HX.out.2.2)
    have HB1 := Lib.hid hB1
    have hOne : ∀ k, v'.ownBlock = some k → w.heap.size + 5 ≤ k ∧ k < W.heap.size := fun k hk => ⟨r1.1 k hk, Kd.R_lt r1 k hk⟩
    have HNE := Lib.hid hOne
    have hpl : (pre.map (fun p => p.1.1)).length < l.length := by rw [List.length_map]; exact hlt
    have HPL := Lib.hid hpl
    clear hOne hpl
    have HR2 := Lib.hid r2
    have HBX := Lib.hid bX
    have HBO := Lib.hid b1
    clear hB1 r2 r1 bX b1 b1'
    gi_wp2_with fail
    refine ⟨trivial, (CallsIn.inRound l' (callsIn_wide.2 HC.out)).mono ?_⟩
    rintro e w1 ⟨v2, rfl, hr2, b2⟩
    obtain ⟨A3, c3, ev⟩ := Kd.R_slice hr2
    subst ev
    have bX1 := blk_below HBX.out b2
    have bO1 : Boxed w1 (w.heap.size + 2) 25 v' := blk_below HBO.out b2
    have hy0 : w1.cell? ⟨Bx, 0, none⟩ = some (.string x.1.1.f0) := (blk_cell bX1 0).trans rfl
    have hy1 : w1.cell? ⟨Bx, 1, none⟩ = some (.string x.1.1.f1) := (blk_cell bX1 1).trans rfl
    have hy2 : w1.cell? ⟨Bx, 2, none⟩ = some (.slice x.1.2.1 x.1.1.f2.length x.1.2.2) := (blk_cell bX1 2).trans rfl
    have hyf : w1.frozen? ⟨Bx, 2, none⟩ = false := blk_frozen bX1 2
    have hoc : w1.cell? ⟨w.heap.size + 2, 0, none⟩ = some v' := bO1.cell
    have hBl1 : Bx < w1.heap.size := blk_lt bX1
    have hOl1 : w.heap.size + 2 < w1.heap.size := bO1.lt
    have hd1 : ¬ w.heap.size + 2 = Bx := by omega
    have hd2 : ¬ Bx = w.heap.size + 2 := by omega
    have hB2 : Below w.heap.size w w1 := HB1.out.trans (b2.mono HB1.out.size)
    have bO2 : Boxed (w1.setCell ⟨Bx, 2, none⟩ (.slice A3 x.1.1.f2.length c3)) (w.heap.size + 2) 25 v' := blk_far bO1 (p := ⟨Bx, 2, none⟩) hd1 _
    have HM := Lib.hid (Kd.R_lower (Kd.R_far (p := ⟨Bx, 2, none⟩) hr2 (fun k (hk : W.heap.size ≤ k) => by show k ≠ Bx; omega) (.slice A3 x.1.1.f2.length c3)) HB1.out.size)
    have HR3 : Hid (Kd.R k75 75 (w1.setCell ⟨Bx, 2, none⟩ (.slice A3 x.1.1.f2.length c3)) w.heap.size (fun k => w.heap.size + 5 ≤ k) v' (pre.map (fun p => p.1.1))) := Lib.hid (Kd.R_mono (Kd.R_far (p := ⟨Bx, 2, none⟩) (Kd.R_below HR2.out b2) (fun k hk => hk.2) _) (fun k hk => hk.1))
    have HB3 : Hid (Below w.heap.size w (w1.setCell ⟨Bx, 2, none⟩ (.slice A3 x.1.1.f2.length c3))) := Lib.hid (hB2.setCell (p := ⟨Bx, 2, none⟩) (by show w.heap.size ≤ Bx; omega) _)
    have HO2 := Lib.hid bO2
    have HB2 := Lib.hid b2
    have hz2 : W.heap.size ≤ w1.heap.size := b2.size
    clear hr2 b2 bX1 bO1 hB2 bO2
    gi_wp2_with (gi_at_builtin; refine R_append_in k75 (w0 := w) w.heap.size rfl (.tmp 15) (.tmp 17) 25 75 (.agg #[.string ⟨#[]⟩, .string ⟨#[]⟩, .slice none 0 0]) 56 rfl Tryd.underlying25 infoEntry rfl (by decide) (by omega) v' (pre.map (fun p => p.1.1)) x.1.1 _ (fun k => w.heap.size + 5 ≤ k) (fun k => W.heap.size ≤ k) rfl (by first | rfl | (rw [World.size_setCell]; rfl)) (k75_mkM _ _ _ x.1.1 HM.out) (fun k hk => ⟨by omega, fun e => by have := HNE.out k e.symm; omega⟩) (fun k hk => by have := HB3.out.size; rw [World.size_setCell] at hk; omega) HR3.out HB3.out HB3.out.size (by have := HPL.out; omega) ?_; intro v3 w3 ho3 hb3 hg3 hat3; have bO3 := HO2.out.kept hg3 (fun e => by have := HNE.out _ e.symm; omega); have HO3 := Lib.hid ho3; have HB4 := Lib.hid hb3; have HG3 := Lib.hid hg3; have HBO3 := Lib.hid bO3; have hoc3 := bO3.cell; have hof3 := bO3.frozen; obtain ⟨A4, c4, ev3⟩ := Kd.R_slice ho3; subst ev3; clear ho3 hb3 hg3 hat3 bO3)
    have eL : ((pre.map (fun p => p.1.1)) ++ [x.1.1]).length = pre.length + 1 := by simp
    have hO3 := HO3.out
    rw [eL] at hO3
    have hg3 := HG3.out
    have hz3 : W.heap.size ≤ (w1.setCell ⟨Bx, 2, none⟩ (.slice A3 x.1.1.f2.length c3)).heap.size := by rw [World.size_setCell]; exact hz2
    refine ⟨?k1, ⟨?k2, ?k3⟩, ⟨.slice A4 (pre.length + 1) c4, HBO3.out.set _, ?r⟩, ?b, ?z⟩
    case k1 =>
      refine ((keeps_below HB2.out).trans ((KeepsOthers.setCell _ _ _).trans ((KeepsOthers.of_grownBy hg3 fun j o ej hj => ?_).trans (KeepsOthers.setCell _ _ _)))).from _
      obtain ⟨cells, hc⟩ := Kd.R_typed HR3.out j ej
      rw [hc] at hj
      cases hj
      rfl
    case k2 =>
      exact (((HB2.out.mono HB1.out.size).setCell (p := ⟨Bx, 2, none⟩) (by show w.heap.size ≤ Bx; omega) _).grown hg3 (by have := HB1.out.size; omega) (fun k hk => by have := HNE.out k hk; omega)).setCell (p := ⟨w.heap.size + 2, 0, none⟩) (by show w.heap.size ≤ w.heap.size + 2; omega) _
    case k3 =>
      refine (Below.heap_setCell _ ⟨w.heap.size + 2, 0, none⟩ _ _ (by show w.heap.size + 3 ≠ w.heap.size + 2; omega)).trans ?_
      refine (hg3.block _ (by omega) (fun e => by have := HNE.out _ e.symm; omega)).trans ?_
      refine (Below.heap_setCell _ ⟨Bx, 2, none⟩ _ _ (by show w.heap.size + 3 ≠ Bx; omega)).trans ?_
      exact HB2.out.block _ (by omega)
    case r =>
      rw [List.map_append]
      exact Kd.R_far (p := ⟨w.heap.size + 2, 0, none⟩) hO3 (fun k hk => by show k ≠ w.heap.size + 2; omega) _
    case b =>
      exact HB4.out.setCell (p := ⟨w.heap.size + 2, 0, none⟩) (by show w.heap.size ≤ w.heap.size + 2; omega) _
    case z =>
      rw [World.size_setCell]
      have := hg3.size
      omega
  case done =>
    rintro D zs W hD hzs ⟨⟨v, b1, r1⟩, hB1, hz1⟩ hK
    have hc := b1.cell
    gi_wp2
    refine ⟨by simp, .inl ⟨_, _, rfl, run_takeDeferred hK, ?_⟩⟩
    refine ⟨_, results_tmp rfl _ _ _, v, rfl, ?_, hB1.trans (belowK_b (w := w) (Nat.le_refl _) W D _ _ (by omega) hK rfl rfl)⟩
    have h2 := R_kept r1 (grownBy_putObj' W D (.deferred none)) (fun r e => by cases e; exact ⟨_, hK, rfl⟩)
    rw [hzs] at h2
    exact Kd.R_mono h2 (fun k (hk : w.heap.size + 5 ≤ k) => by omega)
  case stop =>
    rintro D c pre W _ _ h _
    exact h.elim
end Go.Proofs.YtfmholpbpghojaaDoor
