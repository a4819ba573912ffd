import Derived.Test.YtfmholpbpghojaaDoorOrdK
/-! Order: Keys, its closures by contracts of their own. -/
namespace Go.Proofs.YtfmholpbpghojaaDoor
set_option linter.unusedVariables false
set_option linter.unusedSimpArgs false
open Go.RowKit Go.Lib
open Go.Proofs.YtfmholpbpghojaaDoor.ROrderBytes
open Go.Proofs.YtfmholpbpghojaaDoorW.PrintWords

/-- The two captured variables: what is left of the text, and whether all is well. -/
structure St (w : World) (p q : Nat) (s : List UInt8) (ok : Bool) : Prop where
  s : w.heap[p]? = some (.cells #[.string (bs s)] 9 (0, 0))
  ok : w.heap[q]? = some (.cells #[.bool ok] 4 (0, 0))
theorem St.ne {w : World} {p q : Nat} {s : List UInt8} {ok : Bool} (h : St w p q s ok) : p ≠ q := blk_ne h.s h.ok (by decide)
theorem St.kept {w w' : World} {p q : Nat} {s : List UInt8} {ok : Bool} {S : Nat → Prop} (h : St w p q s ok) (hk : Kept w w' S) (hp : ¬ S p) (hq : ¬ S q) : St w' p q s ok := ⟨blk_kept h.s hk hp, blk_kept h.ok hk hq⟩
/-- What is written: at these two alone. -/
structure Wr (w w' : World) (p q : Nat) : Prop where
  kept : Kept w w' (fun k => k = p ∨ k = q)
  below : ∀ b w0, b ≤ p → b ≤ q → Below b w0 w → Below b w0 w'
theorem Wr.refl (w : World) (p q : Nat) : Wr w w p q := ⟨Kept.refl _ _, fun _ _ _ _ h => h⟩
theorem Wr.trans {w w1 w2 : World} {p q : Nat} (h : Wr w w1 p q) (k : Wr w1 w2 p q) : Wr w w2 p q := ⟨h.kept.then_ k.kept (fun _ h => .inl h), fun b w0 hp hq hb => k.below b w0 hp hq (h.below b w0 hp hq hb)⟩
def nx (s : List UInt8) (ok : Bool) : UInt8 × List UInt8 × Bool := match s with | [] => (0, [], false) | c :: r => (c, r, ok)
theorem next_any (p q : Nat) (s : List UInt8) (ok : Bool) (w : World) (h : St w p q s ok) :
    Calls Tryd.prog 59 #[.pointer (some ⟨p, 0, none⟩), .pointer (some ⟨q, 0, none⟩)] w fun e w' =>
      e = .returned (.int .u8 (nx s ok).1.toNat) ∧ St w' p q (nx s ok).2.1 (nx s ok).2.2 ∧ Wr w w' p q := by
  have hcp : w.cell? ⟨p, 0, none⟩ = some (.string (bs s)) := (blk_cell h.s 0).trans rfl
  have hcq : w.cell? ⟨q, 0, none⟩ = some (.bool ok) := (blk_cell h.ok 0).trans rfl
  have hfp : w.frozen? ⟨p, 0, none⟩ = false := blk_frozen h.s 0
  have hfq : w.frozen? ⟨q, 0, none⟩ = false := blk_frozen h.ok 0
  have hn := h.ne
  have H := Lib.hid h
  clear h
  cases s with
  | nil =>
    have e0 : (bs []).toList.isEmpty = true := by decide +kernel
    go_enter Tryd.func59, Tryd.ntmps59
    go_wp2_with fail
    go_ret
    exact ⟨rfl, ⟨blk_far H.out.s hn _, blk_put H.out.ok 0 _ rfl⟩, (Kept.refl _ _).setCell (.inl (.inr rfl)) _, fun b w0 hp hq hb => hb.setCell hq _⟩
  | cons c r =>
    have e0 : (bs (c :: r)).toList.isEmpty = false := by rw [ByteArray.toList_eq]; rfl
    have e1 : 0 < (bs (c :: r)).size := by rw [bs_size]; simp
    have e2 : 1 ≤ (bs (c :: r)).size := e1
    have e3 : ((bs (c :: r))[0]'e1) = c := rfl
    have e4 : (bs (c :: r)).extract 1 (bs (c :: r)).size = bs r := by rw [bs_size, bs_extract]; simp
    have E3 := Lib.hid e3
    have E4 := Lib.hid e4
    clear e3 e4
    go_enter Tryd.func59, Tryd.ntmps59
    go_wp2_with fail
    go_ret
    rw [E4.out]
    exact ⟨rfl, ⟨blk_put H.out.s 0 _ rfl, blk_far H.out.ok (Ne.symm hn) _⟩, (Kept.refl _ _).setCell (.inl (.inl rfl)) _, fun b w0 hp hq hb => hb.setCell hp _⟩
/-- The closures' own variables. -/
def nextV (p q : Nat) : Value := .func (.func 59) #[] #[.pointer (some ⟨p, 0, none⟩), .pointer (some ⟨q, 0, none⟩)]
def stepN (u : Int) (c : UInt8) : Int := bits .or .u64 (IntKind.u64.wrap (u * 256)) (IntKind.u64.wrap c.toNat)
def numL : Nat → Int → List UInt8 → Bool → Int × List UInt8 × Bool
  | 0, u, s, ok => (u, s, ok)
  | n + 1, u, s, ok => numL n (stepN u (nx s ok).1) (nx s ok).2.1 (nx s ok).2.2
def numV (s : List UInt8) (ok : Bool) : Int := IntKind.u64.wrap ((numL 8 0 s ok).1 + 9223372036854775808)
theorem number_any (p q m : Nat) (s : List UInt8) (ok : Bool) (w : World) (h : St w p q s ok) (hm : w.heap[m]? = some (.cells #[nextV p q] 98 (0, 0))) :
    Calls Tryd.prog 60 #[.pointer (some ⟨m, 0, none⟩)] w fun e w' =>
      e = .returned (.int .u64 (numV s ok)) ∧ St w' p q (numL 8 0 s ok).2.1 (numL 8 0 s ok).2.2 ∧ Wr w w' p q := by
  have hmp : m ≠ p := blk_ne hm h.s (by decide)
  have hmq : m ≠ q := blk_ne hm h.ok (by decide)
  have HM := Lib.hid hm
  have H := Lib.hid h
  unfold numV
  obtain ⟨R, hR⟩ : ∃ R, R = numL 8 0 s ok := ⟨_, rfl⟩
  have HR := Lib.hid hR
  rw [← hR]
  clear hm h hR
  go_enter Tryd.func60, Tryd.ntmps60
  go_wp2_with fail
  go_loopg [1, 2] 8 (fun kq v1 v2 w' => ∃ (u : Int) (i : Int) (s' : List UInt8) (ok' : Bool), v1 = .int .u64 u ∧ v2 = .int .i64 i ∧ Hid (0 ≤ i ∧ i + kq = 8) ∧ Hid (R = numL kq u s' ok') ∧ Hid (St w' p q s' ok') ∧ Hid (Wr w w' p q))
  case atStart => exact ⟨0, 0, s, ok, rfl, rfl, ⟨by omega, rfl⟩, HR, H.out, Wr.refl _ _ _⟩
  case round =>
    obtain ⟨u, i, s', ok', rfl, rfl, hi, hr, hst, hwr⟩ := hrel
    have hm2 : wr.heap[m]? = some (.cells #[nextV p q] 98 (0, 0)) := blk_kept HM.out hwr.out.kept (by rintro (h | h); exact hmp h; exact hmq h)
    have hcm : wr.cell? ⟨m, 0, none⟩ = some (nextV p q) := (blk_cell hm2 0).trans rfl
    have HN := Lib.hid (next_any p q s' ok' _ hst.out)
    unfold nextV at hcm
    cases gk with
    | zero =>
      have hi2 : i = 8 := by have := hi.out; omega
      subst hi2
      have e0 := hr.out
      unfold numL at e0
      subst e0
      go_wp2_with fail
      go_ret
      exact ⟨rfl, hst.out, hwr.out⟩
    | succ k =>
      have hi2 : i < 8 := by have := hi.out; omega
      have e0 := hr.out
      unfold numL at e0
      have HE := Lib.hid e0
      clear e0
      go_wp2_with (go_at_call 59; refine HN.out.mono ?_; rintro e w1 ⟨rfl, hst1, hwr1⟩; have HST1 := Lib.hid hst1; have HWR1 := Lib.hid hwr1; clear hst1 hwr1)
      go_roundg k
      case measure => omega
      case rel =>
        have ei : wrap64 (i + 1) = i + 1 := by unfold wrap64; have := hi.out; omega
        exact ⟨_, i + 1, (nx s' ok').2.1, (nx s' ok').2.2, rfl, by rw [ei], by have := hi.out; constructor <;> omega, HE, HST1, hwr.out.trans HWR1.out⟩
theorem Wr.grown {w W W2 : World} {p q : Nat} {row : Option Nat} (h : Wr w W p q) (hg : W.grownBy W2 row) (hp : p < w.heap.size) (hr : ∀ k, row = some k → w.heap.size ≤ k) : Wr w W2 p q :=
  ⟨h.kept.of_grown hg (fun k hk => .inr (hr k hk)), fun b w0 h1 h2 hb => (h.below b w0 h1 h2 hb).grown hg (by have := h.kept.1; omega) (fun k hk => by have := hr k hk; omega)⟩
theorem Wr.alloc {w W : World} {p q : Nat} (h : Wr w W p q) (hp : p < w.heap.size) (o : Obj) : Wr w (W.alloc o) p q :=
  ⟨h.kept.alloc o, fun b w0 h1 h2 hb => (h.below b w0 h1 h2 hb).alloc (by have := h.kept.1; omega) o⟩
theorem St.grown {w w' : World} {p q : Nat} {s : List UInt8} {ok : Bool} {row : Option Nat} (h : St w p q s ok) (hg : w.grownBy w' row) (hp : some p ≠ row) (hq : some q ≠ row) : St w' p q s ok := ⟨blk_grown h.s hg hp, blk_grown h.ok hg hq⟩
theorem St.alloc {w : World} {p q : Nat} {s : List UInt8} {ok : Bool} (h : St w p q s ok) (o : Obj) : St (w.alloc o) p q s ok := ⟨blk_alloc h.s o, blk_alloc h.ok o⟩
def textL' : Nat → List Int → List UInt8 → Bool → Option (ByteArray × List UInt8 × Bool)
  | 0, _, _, _ => none
  | k + 1, b, s, ok =>
    if ok = true then
      if b.length < 140737488355328 then
        if (nx s ok).1 = 0 then
          if (nx (nx s ok).2.1 (nx s ok).2.2).1 = 1 then some (strOfNums b, (nx (nx s ok).2.1 (nx s ok).2.2).2)
          else if (nx (nx s ok).2.1 (nx s ok).2.2).1 = 255 then textL' k (b ++ [0]) (nx (nx s ok).2.1 (nx s ok).2.2).2.1 (nx (nx s ok).2.1 (nx s ok).2.2).2.2
          else textL' k (b ++ [0]) (nx (nx s ok).2.1 (nx s ok).2.2).2.1 false
        else textL' k (b ++ [((nx s ok).1.toNat : Int)]) (nx s ok).2.1 (nx s ok).2.2
      else none
    else some (⟨#[]⟩, s, ok)
theorem text_any' (k p q m : Nat) (s : List UInt8) (ok : Bool) (w : World) (h : St w p q s ok) (hm : w.heap[m]? = some (.cells #[nextV p q] 98 (0, 0))) (R : ByteArray × List UInt8 × Bool) (hR : textL' k [] s ok = some R) :
    Calls Tryd.prog 61 #[.pointer (some ⟨q, 0, none⟩), .pointer (some ⟨m, 0, none⟩)] w fun e w' =>
      e = .returned (.string R.1) ∧ St w' p q R.2.1 R.2.2 ∧ Wr w w' p q := by
  have hmp : m ≠ p := blk_ne hm h.s (by decide)
  have hmq : m ≠ q := blk_ne hm h.ok (by decide)
  have hpz := blk_lt h.s
  have hqz := blk_lt h.ok
  have hmz := blk_lt hm
  have HM := Lib.hid hm
  have H := Lib.hid h
  have HR := Lib.hid hR
  clear hm h hR
  go_enter Tryd.func61, Tryd.ntmps61
  go_wp2_with fail
  go_loopg [3] k (fun kq v3 w' => ∃ (b : List Int) (s' : List UInt8) (ok' : Bool), Hid (textL' kq b s' ok' = some R) ∧ Hid (St w' p q s' ok') ∧ Hid (Wr w w' p q) ∧ Hid (Kd.R (Kd.int .u8) 5 w' w.heap.size (fun k => w.heap.size ≤ k) v3 b))
  case atStart => exact ⟨[], s, ok, HR, H, Wr.refl _ _ _, Kd.R_nil _ _ _ _ _⟩
  case round =>
    obtain ⟨b, s', ok', hr, hst, hwr, ho⟩ := hrel
    have hm2 : wr.heap[m]? = some (.cells #[nextV p q] 98 (0, 0)) := blk_kept HM.out hwr.out.kept (by rintro (h | h); exact hmp h; exact hmq h)
    have hcm : wr.cell? ⟨m, 0, none⟩ = some (nextV p q) := (blk_cell hm2 0).trans rfl
    have hcq : wr.cell? ⟨q, 0, none⟩ = some (.bool ok') := (blk_cell hst.out.ok 0).trans rfl
    have HN := Lib.hid (next_any p q s' ok' _ hst.out)
    have HN2 := Lib.hid (fun W h => next_any p q (nx s' ok').2.1 (nx s' ok').2.2 W h)
    have HM2 := Lib.hid hm2
    have e0 := hr.out
    clear hr hm2
    unfold nextV at hcm
    cases gk with
    | zero => exact absurd e0 (by simp [textL'])
    | succ k =>
      unfold textL' at e0
      cases ok' with
      | false =>
        rw [if_neg (by decide)] at e0
        obtain rfl := Option.some.inj e0
        go_wp2_with fail
        go_ret
        exact ⟨rfl, hst.out, hwr.out⟩
      | true =>
        rw [if_pos rfl] at e0
        by_cases hlb : b.length < 140737488355328
        · rw [if_pos hlb] at e0
          have HL := Lib.hid hlb
          clear hlb
          generalize nx s' true = r1 at *
          obtain ⟨c, s1, o1⟩ := r1
          dsimp only at *
          by_cases hc : c = 0
          · rw [if_pos hc] at e0
            subst hc
            generalize nx s1 o1 = r2 at *
            obtain ⟨c2, s2, o2⟩ := r2
            dsimp only at *
            have HE := Lib.hid e0
            clear e0
            go_wp2_with (first | (go_at_call 59; refine HN.out.mono ?_; rintro e w1 ⟨rfl, hst1, hwr1⟩; have hcm1 : w1.cell? ⟨m, 0, none⟩ = some (nextV p q) := (blk_cell (blk_kept HM2.out hwr1.kept (by rintro (h | h); exact hmp h; exact hmq h)) 0).trans rfl; unfold nextV at hcm1; have HST1 := Lib.hid hst1; have HWR1 := Lib.hid hwr1; clear hst1 hwr1))
            refine (HN2.out _ HST1.out).mono ?_
            rintro e w2 ⟨rfl, hst2, hwr2⟩
            have hO2 : Kd.R (Kd.int .u8) 5 w2 w.heap.size (fun k => w.heap.size ≤ k) u3 b := Kd.R_step (Kd.R_step ho.out (fun k h1 hk => HWR1.out.kept.2 k hk (by omega))) (fun k h1 hk => hwr2.kept.2 k hk (by omega))
            have HO2 := Lib.hid hO2
            have hcq2 : w2.cell? ⟨q, 0, none⟩ = some (.bool o2) := (blk_cell hst2.ok 0).trans rfl
            have hfq2 : w2.frozen? ⟨q, 0, none⟩ = false := blk_frozen hst2.ok 0
            have HST2 := Lib.hid hst2
            have HG2 := Lib.hid ((hwr.out.trans HWR1.out).trans hwr2)
            clear hst2 hwr2 hO2
            by_cases h1 : c2 = 1
            · subst h1
              have e1 := HE.out
              rw [if_pos rfl] at e1
              obtain rfl := Option.some.inj e1
              have hcv := own_string (P := Tryd.prog) Tryd.underlying72 Tryd.underlying5 Tryd.underlying9 (Kd.own_of_R HO2.out)
              go_wp2_with fail
              go_ret
              exact ⟨rfl, HST2.out, HG2.out⟩
            · have e1 := HE.out
              rw [if_neg h1] at e1
              have hc1 : ((c2.toNat : Int) == 1) = false := by
                rw [beq_eq_false_iff_ne]
                intro h
                exact h1 (UInt8.toNat_inj.1 (by have : (1 : UInt8).toNat = 1 := rfl; omega))
              by_cases h2 : c2 = 255
              · subst h2
                rw [if_pos rfl] at e1
                have HE1 := Lib.hid e1
                clear e1
                go_wp2_with (at_builtin; refine Kd.R_append (Kd.int .u8) (w0 := _) w.heap.size rfl (.tmp 20) (.tmp 22) 72 5 (.int .u8 0) 1 rfl Tryd.underlying72 info5 rfl (by decide) (by omega) u3 b 0 [.int .u8 0] (fun k => w.heap.size ≤ k) (fun _ => False) rfl rfl rfl (fun _ hk => hk.elim) (fun k hk => Nat.le_trans HG2.out.kept.1 hk) HO2.out (Below.refl _ _) HG2.out.kept.1 (by have := HL.out; omega) ?_; intro v3 w3 ho3 hb3 hg3 hat3; have HO3 := Lib.hid ho3; have HG3 := Lib.hid hg3; clear ho3 hb3 hg3 hat3)
                go_roundg k
                case measure => omega
                case rel => exact ⟨_, s2, o2, HE1, HST2.out.grown HG3.out (Kd.R_ne HO2.out HST2.out.s (by decide)) (Kd.R_ne HO2.out HST2.out.ok (by decide)), HG2.out.grown HG3.out hpz (fun k hk => HO2.out.1 k hk), HO3⟩
              · have hc2 : ((c2.toNat : Int) == 255) = false := by
                  rw [beq_eq_false_iff_ne]
                  intro h
                  exact h2 (UInt8.toNat_inj.1 (by have : (255 : UInt8).toNat = 255 := rfl; omega))
                rw [if_neg h2] at e1
                have HE1 := Lib.hid e1
                clear e1
                have HO4 := Lib.hid (Kd.R_far (p := ⟨q, 0, none⟩) HO2.out (fun k (hk : w.heap.size ≤ k) => by show k ≠ q; omega) (.bool false))
                have HST4 := Lib.hid (St.mk (blk_far HST2.out.s (p := ⟨q, 0, none⟩) HST2.out.ne (.bool false)) (blk_put HST2.out.ok 0 (.bool false) rfl))
                have HG4 := Lib.hid (Wr.mk (HG2.out.kept.setCell (p := ⟨q, 0, none⟩) (.inl (.inr rfl)) (.bool false)) (fun b w0 hp hq hb => (HG2.out.below b w0 hp hq hb).setCell (p := ⟨q, 0, none⟩) hq (.bool false)))
                go_wp2_with (at_builtin; refine Kd.R_append (Kd.int .u8) (w0 := _) w.heap.size rfl (.tmp 20) (.tmp 22) 72 5 (.int .u8 0) 1 rfl Tryd.underlying72 info5 rfl (by decide) (by omega) u3 b 0 [.int .u8 0] (fun k => w.heap.size ≤ k) (fun _ => False) rfl (by rw [World.size_setCell]; rfl) rfl (fun _ hk => hk.elim) (fun k hk => Nat.le_trans HG4.out.kept.1 hk) HO4.out (Below.refl _ _) HG4.out.kept.1 (by have := HL.out; omega) ?_; intro v3 w3 ho3 hb3 hg3 hat3; have HO3 := Lib.hid ho3; have HG3 := Lib.hid hg3; clear ho3 hb3 hg3 hat3)
                go_roundg k
                case measure => omega
                case rel => exact ⟨_, s2, false, HE1, HST4.out.grown HG3.out (Kd.R_ne HO4.out HST4.out.s (by decide)) (Kd.R_ne HO4.out HST4.out.ok (by decide)), HG4.out.grown HG3.out hpz (fun k hk => HO4.out.1 k hk), HO3⟩
          · rw [if_neg hc] at e0
            have hc0 : ((c.toNat : Int) == 0) = false := by
              rw [beq_eq_false_iff_ne]
              intro h
              exact hc (UInt8.toNat_inj.1 (by have : (0 : UInt8).toNat = 0 := rfl; omega))
            have HE1 := Lib.hid e0
            clear e0
            go_wp2_with (first | (go_at_call 59; refine HN.out.mono ?_; rintro e w1 ⟨rfl, hst1, hwr1⟩; have HST1 := Lib.hid hst1; have HG1 := Lib.hid (hwr.out.trans hwr1); have HO1 := Lib.hid (Kd.R_step ho.out (fun k (h1 : w.heap.size ≤ k) hk => hwr1.kept.2 k hk (by omega))); clear hst1 hwr1) | (at_builtin; refine Kd.R_append (Kd.int .u8) (w0 := _) w.heap.size rfl (.tmp 20) (.tmp 22) 72 5 (.int .u8 0) 1 rfl Tryd.underlying72 info5 rfl (by decide) (by omega) u3 b c.toNat [.int .u8 c.toNat] (fun k => w.heap.size ≤ k) (fun _ => False) rfl rfl rfl (fun _ hk => hk.elim) (fun k hk => Nat.le_trans HG1.out.kept.1 hk) HO1.out (Below.refl _ _) HG1.out.kept.1 (by have := HL.out; omega) ?_; intro v3 w3 ho3 hb3 hg3 hat3; have HO3 := Lib.hid ho3; have HG3 := Lib.hid hg3; clear ho3 hb3 hg3 hat3))
            go_roundg k
            case measure => omega
            case rel => exact ⟨_, s1, o1, HE1, HST1.out.grown HG3.out (Kd.R_ne HO1.out HST1.out.s (by decide)) (Kd.R_ne HO1.out HST1.out.ok (by decide)), HG1.out.grown HG3.out hpz (fun k hk => HO1.out.1 k hk), HO3⟩
        · rw [if_neg hlb] at e0
          exact absurd e0 (by simp)
end Go.Proofs.YtfmholpbpghojaaDoor
