import Derived.Test.YtfmholpbpghojaaDoorSchN
/-! Schema: analysis.find, analysis.Check, may, Check. -/
namespace Go.Proofs.YtfmholpbpghojaaDoor
set_option linter.unusedVariables false
set_option linter.unusedSimpArgs false
open Go.RowKit Go.Lib
open Go.Proofs.YtfmholpbpghojaaDoor.RSchemaChecks
open Go.Proofs.YtfmholpbpghojaaDoorW.PrintWords

theorem fin0 {P : Program} (d : Nat) (w : World) (t : TypeId) {ps rs : Array TypeId} {vd : Bool} (h : P.underlying t = some (.func ps rs vd)) : (Go.Op.equalIn (d + 1) t .nilFunc .nilFunc).run P w = .ok true w := by
  simp [Go.Op.equalIn, run_underlying h]
theorem fin1 {P : Program} (d : Nat) (w : World) (t : TypeId) {ps rs : Array TypeId} {vd : Bool} (h : P.underlying t = some (.func ps rs vd)) (fn : Fn) (fi ca : Array Value) : (Go.Op.equalIn (d + 1) t (.func fn fi ca) .nilFunc).run P w = .ok false w := by
  simp [Go.Op.equalIn, run_underlying h]
theorem feq0 {P : Program} (w : World) (t : TypeId) {ps rs : Array TypeId} {vd : Bool} (h : P.underlying t = some (.func ps rs vd)) : (Go.binOp .eql t .nilFunc .nilFunc).run P w = .ok (.bool true) w := by
  have e : (Go.Op.equal t .nilFunc .nilFunc).run P w = .ok true w := fin0 9999 w t h
  simp only [Go.binOp]
  simp [e]
theorem feq1 {P : Program} (w : World) (t : TypeId) {ps rs : Array TypeId} {vd : Bool} (h : P.underlying t = some (.func ps rs vd)) (fn : Fn) (fi ca : Array Value) : (Go.binOp .eql t (.func fn fi ca) .nilFunc).run P w = .ok (.bool false) w := by
  have e : (Go.Op.equal t (.func fn fi ca) .nilFunc).run P w = .ok false w := fin1 9999 w t h fn fi ca
  simp only [Go.binOp]
  simp [e]
theorem grams_any (n : Int) (w : World) : Calls Tryd.prog 106 #[.int .i64 n] w fun e w' => (∃ fn fi ca, e = .returned (.func fn fi ca)) ∧ Below w.heap.size w w' := by
  go_enter Tryd.func106, Tryd.ntmps106
  go_wp2_with fail
  go_ret
  exact ⟨⟨_, _, _, rfl⟩, (Below.refl _ _).alloc (Nat.le_refl _) _⟩
def isFilter (n : Int) : Bool := decide (10 ≤ n) && decide (n ≤ 15)
theorem filter_any (n : Int) (w : World) : Calls Tryd.prog 86 #[.int .i64 n] w fun e w' =>
    (isFilter n = true ∧ (∃ fn fi ca, e = .returned (.func fn fi ca)) ∨ isFilter n = false ∧ e = .returned .nilFunc) ∧ Below w.heap.size w w' := by
  have HG := Lib.hid (fun k W => grams_any k W)
  by_cases h10 : n = 10
  · subst h10
    go_enter Tryd.func86, Tryd.ntmps86
    go_wp2_with fail
    go_ret
    exact ⟨.inl ⟨by decide, _, _, _, rfl⟩, Below.refl _ _⟩
  by_cases h11 : n = 11
  · subst h11
    go_enter Tryd.func86, Tryd.ntmps86
    go_wp2_with fail
    go_ret
    exact ⟨.inl ⟨by decide, _, _, _, rfl⟩, Below.refl _ _⟩
  by_cases h12 : n = 12
  · subst h12
    go_enter Tryd.func86, Tryd.ntmps86
    go_wp2_with fail
    refine (HG.out _ _).mono ?_
    rintro e w1 ⟨⟨fn, fi, ca, rfl⟩, b1⟩
    go_wp2_with fail
    go_ret
    exact ⟨.inl ⟨by decide, _, _, _, rfl⟩, b1⟩
  by_cases h13 : n = 13
  · subst h13
    go_enter Tryd.func86, Tryd.ntmps86
    go_wp2_with fail
    refine (HG.out _ _).mono ?_
    rintro e w1 ⟨⟨fn, fi, ca, rfl⟩, b1⟩
    go_wp2_with fail
    go_ret
    exact ⟨.inl ⟨by decide, _, _, _, rfl⟩, b1⟩
  by_cases h14 : n = 14
  · subst h14
    go_enter Tryd.func86, Tryd.ntmps86
    go_wp2_with fail
    go_ret
    exact ⟨.inl ⟨by decide, _, _, _, rfl⟩, Below.refl _ _⟩
  by_cases h15 : n = 15
  · subst h15
    go_enter Tryd.func86, Tryd.ntmps86
    go_wp2_with fail
    go_ret
    exact ⟨.inl ⟨by decide, _, _, _, rfl⟩, Below.refl _ _⟩
  have hf : isFilter n = false := by
    unfold isFilter
    rw [Bool.and_eq_false_iff, decide_eq_false_iff_not, decide_eq_false_iff_not]
    omega
  go_enter Tryd.func86, Tryd.ntmps86
  go_wp2_with fail
  go_ret
  exact ⟨.inr ⟨hf, rfl⟩, Below.refl _ _⟩
/-- A chain's filters, one behind the other. -/
def chk : List Int → List Int → Bool
  | _, [] => true
  | s, x :: r => isFilter x && (!(s.contains x) && chk (s ++ [x]) r)
def chainB : List Int → Bool
  | [] => false
  | t :: r => decide (r.length ≤ 7) && (decide (1 ≤ t) && decide (t ≤ 4)) && chk [] r
theorem dropI (l : List Int) (i : Nat) (h : i < l.length) : l.drop i = l.getD i 0 :: l.drop (i + 1) := by
  rw [List.drop_eq_getElem_cons h]
  simp [h]
theorem takeI (l : List Int) (i : Nat) (h : i < l.length) : l.take (i + 1) = l.take i ++ [l.getD i 0] := by
  rw [List.take_succ_eq_append_getElem h]
  simp [h]
theorem index_l0 (l : List Int) (a : Int) (hz : l.length < 2 ^ 60) : ∀ (n i k : Nat), i + n = l.length → n + 1 ≤ k → ∃ r : Int, slices_Index_int_int.l0 k l a (l.length : Int) (i : Int) = some r ∧ decide (r ≥ 0) = (l.drop i).contains a := by
  intro n
  induction n with
  | zero =>
    intro i k hi hk
    obtain ⟨k, rfl⟩ : ∃ j, k = j + 1 := ⟨k - 1, by omega⟩
    refine ⟨-1, ?_, ?_⟩
    · unfold slices_Index_int_int.l0
      rw [if_neg (by omega)]
    · rw [List.drop_eq_nil_of_le (by omega)]
      rfl
  | succ n ih =>
    intro i k hi hk
    obtain ⟨k, rfl⟩ : ∃ j, k = j + 1 := ⟨k - 1, by omega⟩
    have hw : wrap64 ((i : Int) + 1) = ((i + 1 : Nat) : Int) := by unfold wrap64; omega
    obtain ⟨r, h1, h2⟩ := ih (i + 1) k (by omega) (by omega)
    rw [dropI l i (by omega)]
    have hrd : rd l (i : Int) = l.getD i 0 := by simp [rd]
    by_cases ha : a = l.getD i 0
    · refine ⟨(i : Int), ?_, ?_⟩
      · unfold slices_Index_int_int.l0
        rw [if_pos (by omega), if_pos (by omega), if_pos (by omega), hrd, if_pos ha]
      · rw [List.contains_cons, ← ha]
        simp
    · refine ⟨r, ?_, ?_⟩
      · unfold slices_Index_int_int.l0
        rw [if_pos (by omega), if_pos (by omega), if_pos (by omega), hrd, if_neg ha, hw, h1]
      · rw [List.contains_cons, h2, show (a == l.getD i 0) = false from beq_eq_false_iff_ne.2 ha, Bool.false_or]
theorem contains_f (l : List Int) (a : Int) (hz : l.length < 2 ^ 60) : slices_Contains_int_int.f (l.length + 1) l a = some (l.contains a) := by
  obtain ⟨r, h1, h2⟩ := index_l0 l a hz l.length 0 (l.length + 1) (by omega) (by omega)
  unfold slices_Contains_int_int.f slices_Index_int_int.f
  rw [show ((0 : Nat) : Int) = 0 from rfl] at h1
  rw [h1]
  simp only [Option.bind_some]
  rw [h2, List.drop_zero]
theorem info_chain : (Tryd.prog.info? 3).map (fun i => (i.zero, i.size, i.bytes)) = some (some (.int .i64 0), 1, 8) := by kernel_rfl
set_option maxHeartbeats 2000000 in
set_option maxRecDepth 100000 in
theorem aCheck_any (l : List Int) (A : Option Addr) (c : Nat) (w : World) (hl : Kd.C (Kd.int .i64) w A l.length l) (hc : l.length ≤ c) :
    Calls Tryd.prog 65 #[.slice A l.length c] w fun e w' => e = .returned (.int .i64 (if chainB l = true then 0 else 60)) ∧ Below w.heap.size w w' := by
  have HL := Lib.hid hl
  cases l with
  | nil =>
    clear hl
    go_enter Tryd.func65, Tryd.ntmps65
    go_wp2_with fail
    go_ret
    exact ⟨rfl, Below.refl _ _⟩
  | cons t r =>
    obtain ⟨n, hn⟩ : ∃ n, n = (t :: r).length := ⟨_, rfl⟩
    have hR : ReadsInt w .i64 A n (t :: r) := by rw [hn]; exact Kd.reads_of_C (enc := Value.int .i64) (d := (0 : Int)) (h1 := fun _ => rfl) hl
    obtain ⟨ad, eA, hx⟩ := hR.at_ 0 (Int.le_refl _) (by rw [hn]; simp)
    subst eA
    have hx0 : w.cell? ad = some (.int .i64 t) := by
      have h : w.cell? (ad.add 0) = some (.int .i64 t) := hx
      rwa [show ad.add 0 = ad by simp [Addr.add]] at h
    have hrn : r.length + 1 = n := by rw [hn]; rfl
    have hn1 : (1 : Int) ≤ n := by omega
    rw [← hn] at hc ⊢
    have HR := Lib.hid hR
    have HN := Lib.hid hn
    clear hx hl hR hn
    obtain ⟨R, hRR⟩ : ∃ R, R = chainB (t :: r) := ⟨_, rfl⟩
    rw [← hRR]
    replace hRR : R = (decide (r.length ≤ 7) && (decide (1 ≤ t) && decide (t ≤ 4)) && chk [] r) := hRR
    by_cases h8 : (n : Int) ≤ 8
    · by_cases h1 : 1 ≤ t
      · by_cases h4 : t ≤ 4
        · rw [decide_eq_true (by omega), decide_eq_true h1, decide_eq_true h4, Bool.true_and, Bool.true_and, Bool.true_and] at hRR
          have HRR := Lib.hid hRR
          clear hRR
          obtain ⟨i0, hi0, _, hsz_, _⟩ := info_parts info_chain
          cases r with
          | nil =>
            obtain rfl : n = 1 := by simpa using hrn.symm
            have e1 : R = true := HRR.out
            subst e1
            have hcut := cut_from (P := Tryd.prog) 64 3 .i64 Tryd.underlying64 hi0 1 hsz_ (some ad) 1 c 1 (by omega) (by omega)
            clear hi0 hsz_
            go_enter Tryd.func65, Tryd.ntmps65
            go_wp2_with fail
            all_goals
              go_loopg [28] 0 (fun kq v28 w' => v28 = .int .i64 0 ∧ Hid (w' = w))
              case atStart => exact ⟨rfl, rfl⟩
              case round =>
                obtain ⟨rfl, hw⟩ := hrel
                obtain rfl := hw.out
                go_wp2_with fail
                go_ret
                exact ⟨rfl, Below.refl _ _⟩
          | cons x r' =>
            have hn2 : 2 ≤ n := by rw [← hrn]; simp
            have hc1 : ¬ c = 1 := by omega
            have hcut := cut_from (P := Tryd.prog) 64 3 .i64 Tryd.underlying64 hi0 1 hsz_ (some ad) n c 1 (by omega) hn1
            have hcutm := fun (i : Nat) (h : i + 1 ≤ n) => cut_mid (P := Tryd.prog) 64 3 .i64 .i64 Tryd.underlying64 hi0 1 hsz_ (some ad) n c 1 ((i : Int) + 1) (by omega) (by omega) (by omega) hc
            have HCM := Lib.hid hcutm
            clear hi0 hsz_ hcutm
            obtain ⟨q, hq⟩ : ∃ q, q = x :: r' := ⟨_, rfl⟩
            rw [← hq] at HRR HR HN hrn HL
            clear hq
            have HQ := Lib.hid (show chk (q.take 0) (q.drop 0) = R from HRR.out.symm)
            go_enter Tryd.func65, Tryd.ntmps65
            go_wp2_with fail
            go_loopg [28] q.length (fun kq v28 w' => ∃ i : Nat, v28 = .int .i64 (i : Int) ∧ Hid (i + kq = q.length) ∧ Hid (chk (q.take i) (q.drop i) = R) ∧ Hid (Below w.heap.size w w'))
            case atStart => exact ⟨0, rfl, by show _ = _; omega, HQ, Below.refl _ _⟩
            case round =>
              obtain ⟨i, rfl, hi, hch, hbl⟩ := hrel
              have hi1 := hi.out
              have hni : (0 : Int) ≤ i := by omega
              cases gk with
              | zero =>
                have e0 := hch.out
                rw [List.drop_eq_nil_of_le (by omega)] at e0
                have e1 : R = true := e0.symm
                subst e1
                have hnn : ¬ (i : Int) < ((n - 1 : Nat) : Int) := by omega
                go_wp2_with fail
                go_ret
                exact ⟨rfl, hbl.out⟩
              | succ k =>
                have hia : i < q.length := by omega
                have hnn : (i : Int) < ((n - 1 : Nat) : Int) := by omega
                have hcm : ∀ W, (Instr.slice 64 (.slice (some ad) n c) (some (.int .i64 1)) (some (.int .i64 ((i : Int) + 1))) none).run Tryd.prog W = .ok (.slice (some ⟨ad.block, ad.off + 1, none⟩) i (c - 1)) W := by
                  intro W
                  rw [HCM.out i (by omega) W]
                  have e1 : ((i : Int) + 1).toNat - (1 : Int).toNat = i := by omega
                  rw [e1, if_neg (show ¬ c = (1 : Int).toNat from hc1)]
                  show Result.ok (Value.slice (some (ad.add ((1 : Int).toNat * 1))) i (c - 1)) W = _
                  simp [Addr.add]
                have hf0 := fun W => feq0 (P := Tryd.prog) W 122 Tryd.underlying122
                have hf1 := fun W => feq1 (P := Tryd.prog) W 122 Tryd.underlying122
                have hread := HR.out.at_ ((i : Int) + 1) (by omega) (by omega)
                obtain ⟨ad', eA, hcell⟩ := hread
                obtain rfl : ad = ad' := Option.some.inj eA
                have hcl : w.cell? ⟨ad.block, ad.off + 1 + i, none⟩ = some (.int .i64 (q.getD i 0)) := by
                  have e1 : ((i : Int) + 1).toNat = i + 1 := by omega
                  rw [e1] at hcell
                  have e2 : (⟨ad.block, ad.off + 1 + i, none⟩ : Addr) = ad.add (i + 1) := by
                    simp [Addr.add]
                    omega
                  rw [e2, hcell]
                  simp [rd, e1]
                replace hcl := (hbl.out.cell (World.block_lt_of_cell? w _ hcl)).trans hcl
                have e0 := hch.out
                rw [dropI q i hia] at e0
                unfold chk at e0
                have HTK := Lib.hid (takeI q i hia)
                have hlen : (q.take i).length = i := by rw [List.length_take]; omega
                have HF := Lib.hid (fun W => filter_any (q.getD i 0) W)
                have hC1 : Kd.C (Kd.int .i64) wr (some ⟨ad.block, ad.off + 1, none⟩) i (q.take i) := by
                  have h := Kd.C_mid (c := c) (lo := 1) (hi := i + 1) (Kd.C_below HL.out hbl.out) (by omega) (by have := HN.out; omega) (by have := HN.out; omega)
                  rw [if_neg hc1] at h
                  have e1 : ((t :: q).take (i + 1)).drop 1 = q.take i := by simp
                  rw [e1, hlen] at h
                  have e2 : (Option.map (fun a : Addr => a.add (1 * (Kd.int .i64).sz)) (some ad)) = some ⟨ad.block, ad.off + 1, none⟩ := by
                    show some (ad.add (1 * 1)) = _
                    simp [Addr.add]
                  rw [e2] at h
                  exact h
                have HCT := Lib.hid (fun W h => slices_Contains_int_int.calls ((q.take i).length + 1) (some ⟨ad.block, ad.off + 1, none⟩) (c - 1) (q.take i) (q.getD i 0) _ W h (by rw [hlen]; omega) (contains_f (q.take i) (q.getD i 0) (by rw [hlen]; omega)))
                rw [hlen] at HCT
                have HC1 := Lib.hid hC1
                clear hC1 hcell
                generalize q.getD i 0 = y at *
                cases hf : isFilter y with
                | false =>
                  rw [hf, Bool.false_and] at e0
                  subst e0
                  go_wp2_with fail
                  refine (HF.out _).mono ?_
                  rintro e w1 ⟨he, b1⟩
                  rw [hf] at he
                  obtain rfl := he.resolve_left (fun h => absurd h.1 (by decide)) |>.2
                  have HB1 := Lib.hid (bnext hbl.out b1)
                  clear he b1
                  go_wp2_with fail
                  go_ret
                  exact ⟨rfl, HB1.out⟩
                | true =>
                  rw [hf, Bool.true_and] at e0
                  have HE := Lib.hid e0
                  clear e0
                  go_wp2_with fail
                  refine (HF.out _).mono ?_
                  rintro e w1 ⟨he, b1⟩
                  rw [hf] at he
                  obtain ⟨fn, fi, ca, rfl⟩ := he.resolve_right (fun h => absurd h.1 (by decide)) |>.2
                  have HB1 := Lib.hid (bnext hbl.out b1)
                  clear he
                  go_wp2_with fail
                  refine (HCT.out _ (Kd.C_below HC1.out b1)).mono ?_
                  rintro e w2 ⟨rfl, d2⟩
                  have HB2 := Lib.hid (bnext HB1.out d2.below)
                  clear d2
                  cases hct : (q.take i).contains y with
                  | true =>
                    have e2 := HE.out
                    rw [hct] at e2
                    have e3 : R = false := e2.symm
                    subst e3
                    go_wp2_with fail
                    go_ret
                    exact ⟨rfl, HB2.out⟩
                  | false =>
                    have e2 := HE.out
                    rw [hct, ← HTK.out] at e2
                    have HE2 := Lib.hid (show chk (q.take (i + 1)) (q.drop (i + 1)) = R from e2)
                    clear e2
                    go_wp2_with fail
                    go_roundg k
                    case measure => omega
                    case rel => exact ⟨i + 1, by go_num, by show i + 1 + k = q.length; omega, HE2, HB2⟩
        · rw [decide_eq_false h4, Bool.and_false, Bool.and_false, Bool.false_and] at hRR
          subst hRR
          go_enter Tryd.func65, Tryd.ntmps65
          go_wp2_with fail
          go_ret
          exact ⟨rfl, Below.refl _ _⟩
      · rw [decide_eq_false h1, Bool.false_and, Bool.and_false, Bool.false_and] at hRR
        subst hRR
        go_enter Tryd.func65, Tryd.ntmps65
        go_wp2_with fail
        go_ret
        exact ⟨rfl, Below.refl _ _⟩
    · rw [decide_eq_false (show ¬ r.length ≤ 7 by omega), Bool.false_and, Bool.false_and] at hRR
      subst hRR
      go_enter Tryd.func65, Tryd.ntmps65
      go_wp2_with fail
      go_ret
      exact ⟨rfl, Below.refl _ _⟩
end Go.Proofs.YtfmholpbpghojaaDoor
