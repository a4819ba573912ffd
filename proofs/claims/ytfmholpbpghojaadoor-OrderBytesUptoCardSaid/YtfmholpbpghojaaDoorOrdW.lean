import Derived.Test.YtfmholpbpghojaaDoorShelf
import Derived.Test.YtfmholpbpghojaaDoorOrdL
import Derived.Outline
import Derived.Deep.QuietTactic
import Derived.BigQuiet
import Derived.Deep.RegionHeld3
import Derived.Lib.LaidTab
import Derived.Lib.AppendIntMem
import Derived.WalkSmall
import Derived.Lib.SmallJoins
/-! Order, walked: the library's contracts in one form; order.digits, order.Text, order.Decimal. -/
namespace Go.Proofs.YtfmholpbpghojaaDoor
set_option linter.unusedVariables false
set_option linter.unusedSimpArgs false
open Go.RowKit Go.Lib

/-- What strconv reads: its table of powers, its two errors. -/
structure LayN (w : World) : Prop where
  tab : Lib.TabIs Tryd.prog w "internal/strconv.uint64pow10" .u64 Lib.pow10Tab
  syn : ∃ tp p, w.var? Tryd.prog "strconv.ErrSyntax" = some #[.iface tp p]
  rng : ∃ tp p, w.var? Tryd.prog "strconv.ErrRange" = some #[.iface tp p]
theorem gPow : Tryd.prog.globalNamed "internal/strconv.uint64pow10" = some 0 := by kernel_rfl
theorem gSyn : Tryd.prog.globalNamed "strconv.ErrSyntax" = some 2 := by kernel_rfl
theorem gRng : Tryd.prog.globalNamed "strconv.ErrRange" = some 3 := by kernel_rfl
theorem var_lt {P : Program} {w : World} {n : String} {g : Nat} {cs : Array Value} (hg : P.globalNamed n = some g) (h : w.var? P n = some cs) : g < w.heap.size := by
  unfold World.var? at h
  simp only [hg, Option.bind_some] at h
  cases hh : w.heap[g]? with
  | none => rw [hh] at h; simp at h
  | some o => exact (Array.getElem?_eq_some_iff.1 hh).1
theorem LayN.below {w w' : World} (h : LayN w) (hb : Below w.heap.size w w') : LayN w' := by
  refine ⟨Joins.tab_stays gPow h.tab hb (Nat.le_refl _), ?_, ?_⟩
  · obtain ⟨tp, p, e⟩ := h.syn
    exact ⟨tp, p, var?_below hb gSyn (var_lt gSyn e) e⟩
  · obtain ⟨tp, p, e⟩ := h.rng
    exact ⟨tp, p, var?_below hb gRng (var_lt gRng e) e⟩
/-- One step behind another. -/
theorem below_next {B : Nat} {w a b : World} (h : Below B w a) (hB : B ≤ w.heap.size) (k : Below a.heap.size a b) : Below B w b :=
  h.trans (k.mono (Nat.le_trans hB h.size))
theorem below_dn {B : Nat} {w a : World} (h : Below B w a) (n : Nat) : Below B w (a.drewN n) := ⟨h.os, h.tape, h.output, h.size, h.block⟩
theorem below_drawn (w : World) (n : Nat) : Below w.heap.size w (w.drewN n) := ⟨rfl, rfl, rfl, Nat.le_refl _, fun _ _ => rfl⟩

theorem cutPrefix_minus (l : List UInt8) (w : World) : Calls Tryd.prog 48 #[.string (bs l), .string ⟨#[45]⟩] w fun e w' =>
    e = .returned (.tuple #[.string (bs (trimPrefix l [45])), .bool (hasPrefix l [45])]) ∧ w = w' :=
  (Tryd.strings_CutPrefix (bs l) ⟨#[45]⟩ w).mono fun _ _ ⟨he, hw⟩ => ⟨he, hw.symm⟩
theorem formatInt (n : Int) (h0 : -9223372036854775808 ≤ n) (h1 : n ≤ 9223372036854775807) (w : World) (hL : LayN w) : Calls Tryd.prog 49 #[.int .i64 n, .int .i64 10] w fun e w' =>
    e = .returned (.string (bs (itoa n))) ∧ Below w.heap.size w w' :=
  (Tryd.strconv_FormatInt_10 n h0 h1 w hL.tab).mono fun _ _ ⟨he, k, os, hw⟩ => ⟨he, by rw [hw]; exact Lib.below_grow _ w (Nat.le_refl _) k os⟩
theorem repeat0 (k : Int) (h0 : 0 ≤ k) (h1 : k ≤ 1000) (w : World) : Calls Tryd.prog 50 #[.string ⟨#[48]⟩, .int .i64 k] w fun e w' =>
    e = .returned (.string (bs (List.replicate k.toNat 48))) ∧ Below w.heap.size w w' := by
  obtain ⟨n, rfl⟩ := Int.eq_ofNat_of_zero_le h0
  have hz : (⟨#[48]⟩ : ByteArray).size = 1 := rfl
  refine (Tryd.strings_Repeat ⟨#[48]⟩ n w (by omega) (by rw [hz]; omega)).mono fun e w' ⟨he, hw⟩ => ⟨?_, hw⟩
  rw [he]
  have : repeatL [48] n = List.replicate n 48 := by
    have := repeatL_replicate 48 1 n
    simpa using this
  show Ending.returned (.string (bs (repeatL [48] n))) = _
  rw [this]
  rfl

theorem cutPoint (l : List UInt8) (hl : l.length ≤ 9223372036854775807) (w : World) : Calls Tryd.prog 78 #[.string (bs l), .string ⟨#[46]⟩] w fun e w' =>
    e = .returned (.tuple #[.string (bs (cutP l).1), .string (bs (cutP l).2.1), .bool (cutP l).2.2]) ∧ ∃ n, w' = w.drewN n := by
  have hI : ∀ W, Calls Tryd.prog 97 #[.string (bs l), .string ⟨#[46]⟩] W fun e w' => e = .returned (.int .i64 (indexByte l 46)) ∧ W = w' :=
    fun W => (Tryd.stringslite_Index_one (bs l) 46 W).mono fun _ _ ⟨he, hw⟩ => ⟨he, hw.symm⟩
  have hr := index_lt 46 l
  have HI := Lib.hid hI
  have HZ := Lib.hid (bs_size l)
  have hz : (bs l).size ≤ 9223372036854775807 := by rw [bs_size]; exact hl
  clear hI
  obtain ⟨i, hi⟩ : ∃ i, i = indexByte l 46 := ⟨_, rfl⟩
  have HE := Lib.hid hi
  rw [← hi] at hr HI
  clear hi
  by_cases h : 0 ≤ i
  · have h2 : i < (bs l).size := by rw [bs_size]; omega
    obtain ⟨n, rfl⟩ := Int.eq_ofNat_of_zero_le h
    go_enter Tryd.func78, Tryd.ntmps78
    go_wp2_with fail
    refine (HI.out _).mono ?_
    rintro e w' ⟨rfl, rfl⟩
    go_wp2_with fail
    go_quiet (fail)
    go_wp2
    refine bodyPost_ret (results_tmp3 rfl _ _ _) rfl ?_
    have hc : cutP l = (l.take n, l.drop (n + 1), true) := by
      unfold cutP
      rw [← HE.out, if_pos h]
      simp
    rw [hc]
    refine ⟨ret3 (vstr ?_) (vstr ?_) rfl, nq, rfl⟩
    · rw [bs_extract, List.drop_zero]
    · rw [bs_extract, bs_size, List.take_length]
  · go_enter Tryd.func78, Tryd.ntmps78
    go_wp2_with fail
    refine (HI.out _).mono ?_
    rintro e w' ⟨rfl, rfl⟩
    go_wp2_with fail
    go_ret3
    have hc : cutP l = (l, [], false) := by
      unfold cutP
      rw [← HE.out, if_neg (by omega)]
    rw [hc]
    exact ⟨rfl, 0, rfl⟩
theorem cutPoint' (l : List UInt8) (hl : l.length ≤ 9223372036854775807) (w : World) : Calls Tryd.prog 51 #[.string (bs l), .string ⟨#[46]⟩] w fun e w' =>
    e = .returned (.tuple #[.string (bs (cutP l).1), .string (bs (cutP l).2.1), .bool (cutP l).2.2]) ∧ Below w.heap.size w w' := by
  go_enter Tryd.func51, Tryd.ntmps51
  go_wp2_with (go_at_call 78; refine (cutPoint l hl _).mono ?_; rintro e w' ⟨rfl, nd, rfl⟩)
  go_ret3
  exact ⟨rfl, below_drawn _ _⟩

theorem digit_pred (w : World) : PredAt Tryd.prog 80 #[] encR isNo w := fun W r _ => by
  unfold FnGives
  by_cases h1 : r < 48 <;> by_cases h2 : 57 < r
  all_goals
    have z1 : (r : Int) < 48 ↔ r < 48 := by omega
    have z2 : (57 : Int) < (r : Int) ↔ 57 < r := by omega
    go_enter Tryd.func80, Tryd.ntmps80
    go_wp2
    all_goals first | (exfalso; omega) | (go_ret; exact ⟨by simp [isNo, h1, h2], 0, rfl⟩)

theorem digits_any (l : List UInt8) (a b : Int) (hl : l.length ≤ 9223372036854775807) (w : World) : Calls Tryd.prog 52 #[.string (bs l), .int .i64 a, .int .i64 b] w fun e w' =>
    e = .returned (.bool (digs l a b)) ∧ Below w.heap.size w w' := by
  have hI : ∀ W, Calls Tryd.prog 79 #[.string (bs l), .func (.func 80) #[] #[]] W fun e w' => e = .returned (.int .i64 (idxFunc isNo true (bs l))) ∧ Below W.heap.size W w' :=
    fun W => Tryd.strings_IndexFunc 80 #[] (enters_of Tryd.func80 (by kernel_rfl) rfl) isNo (bs l) W (digit_pred W)
  have hd := idx_digs (bs l)
  rw [bs_data] at hd
  have HD := Lib.hid hd
  have HI := Lib.hid hI
  have hz := bs_size l
  clear hI hd
  obtain ⟨r, hr⟩ : ∃ r, r = idxFunc isNo true (bs l) := ⟨_, rfl⟩
  rw [← hr] at HI HD
  clear hr
  by_cases h1 : a ≤ l.length <;> by_cases h2 : (l.length : Int) ≤ b
  · have z1 : decide (a ≤ (l.length : Int)) = true := decide_eq_true h1
    have z2 : decide ((l.length : Int) ≤ b) = true := decide_eq_true h2
    have e : digs l a b = decide (r < 0) := by unfold digs; rw [z1, z2, HD.out]; rfl
    have E := Lib.hid e
    clear e
    go_enter Tryd.func52, Tryd.ntmps52
    go_wp2_with (go_at_call 79; refine (HI.out _).mono ?_; rintro e w' ⟨rfl, hb⟩)
    go_ret
    exact ⟨ret1 (vbool E.out.symm), hb⟩
  all_goals
    have e : digs l a b = false := by unfold digs; simp [h1, h2]
    have E := Lib.hid e
    clear e
    go_enter Tryd.func52, Tryd.ntmps52
    go_wp2
    go_ret
    exact ⟨ret1 (vbool E.out.symm), Below.refl _ _⟩

theorem itoa_parts (n : Int) : trimPrefix (itoa n) [45] = decDigits n.natAbs ∧ hasPrefix (itoa n) [45] = decide (n < 0) := by
  unfold itoa
  by_cases h : n < 0
  · rw [if_pos h]
    simp [trimPrefix, hasPrefix, h]
  · rw [if_neg h]
    have hp := dec_all n.toNat
    obtain ⟨c, t, hc⟩ : ∃ c t, decDigits n.toNat = c :: t := by
      cases hd : decDigits n.toNat with
      | nil => have := dec_pos n.toNat; rw [hd] at this; simp at this
      | cons c t => exact ⟨c, t, rfl⟩
    rw [hc, List.all_cons, Bool.and_eq_true] at hp
    rw [hc, (no_sign hp.1).1, (no_sign hp.1).2, ← hc]
    exact ⟨by congr 1; omega, by simp [h]⟩
theorem mx_pad (d : List UInt8) (sc : Int) (h0 : 0 ≤ sc) (h9 : sc ≤ 9) : 0 ≤ mx 0 (sc + 1 - (d.length : Int)) ∧ mx 0 (sc + 1 - (d.length : Int)) ≤ 1000 := by
  unfold mx
  split <;> omega

theorem point_bs (z t : List UInt8) (sc : Int) (h : 0 < sc) :
    (bs z ++ bs t).extract 0 ((z.length : Int) + (t.length : Int) - sc).toNat ++ ⟨#[46]⟩ ++ (bs z ++ bs t).extract ((z.length : Int) + (t.length : Int) - sc).toNat (z.length + t.length) = bs (pointL (z ++ t) sc) := by
  have e : (⟨#[46]⟩ : ByteArray) = bs [46] := rfl
  unfold pointL
  rw [if_pos h, bs_append, bs_extract, bs_extract, e, bs_append, bs_append, List.drop_zero, ← List.length_append, List.take_length, List.append_assoc, List.length_append]
  simp only [Int.natCast_add, List.singleton_append]
theorem point_no (z t : List UInt8) (sc : Int) (h : ¬ 0 < sc) : bs (pointL (z ++ t) sc) = bs z ++ bs t := by
  unfold pointL
  rw [if_neg h, bs_append]
theorem bs_nil_append (s : ByteArray) : bs [] ++ s = s := by
  rw [← bs_of s, bs_append]
  rfl
theorem text_bad (n sc : Int) (h : sc < 0 ∨ 9 < sc) (w : World) : Calls Tryd.prog 21 #[.int .i64 n, .int .i64 sc] w fun e w' => e = .returned (.tuple #[.string ⟨#[]⟩, .int .i64 1]) ∧ Below w.heap.size w w' := by
  by_cases h1 : sc < 0
  · go_enter Tryd.func21, Tryd.ntmps21
    go_wp2
    go_ret2
    exact ⟨rfl, Below.refl _ _⟩
  · have h2 : 9 < sc := by omega
    go_enter Tryd.func21, Tryd.ntmps21
    go_wp2
    go_ret2
    exact ⟨rfl, Below.refl _ _⟩
set_option maxHeartbeats 400000 in
theorem text_good (n sc : Int) (h0 : 0 ≤ sc) (h9 : sc ≤ 9) (hn0 : -9223372036854775808 ≤ n) (hn1 : n ≤ 9223372036854775807) (w : World) (hL : LayN w) :
    Calls Tryd.prog 21 #[.int .i64 n, .int .i64 sc] w fun e w' => e = .returned (.tuple #[.string (bs (textL n sc)), .int .i64 0]) ∧ Below w.heap.size w w' := by
  obtain ⟨p1, p2⟩ := itoa_parts n
  have HT := Lib.hid (show textL n sc = (if n < 0 then [45] else []) ++ pointL (padL (decDigits n.natAbs) sc) sc from rfl)
  obtain ⟨kk, zz, -, hlen, hk1, hk2, -, -⟩ := pad_facts n.natAbs sc h0 (by omega) h9
  have HF := Lib.hid (formatInt n hn0 hn1 w hL)
  have hC := fun W => cutPrefix_minus (itoa n) W
  rw [p1, p2] at hC
  have HC := Lib.hid hC
  clear hC p1 p2 hL
  generalize itoa n = I at *
  have hd1 := dec_len 18 n.natAbs (by omega)
  generalize decDigits n.natAbs = t at *
  obtain ⟨m1, m2⟩ := mx_pad t sc h0 h9
  have HR := Lib.hid (fun W => repeat0 _ m1 m2 W)
  unfold padL at hlen HT
  obtain ⟨z, hz⟩ : ∃ z, z = List.replicate (mx 0 (sc + 1 - (t.length : Int))).toNat (48 : UInt8) := ⟨_, rfl⟩
  rw [← hz] at hlen HT HR
  clear hz m1 m2
  have hm := @max_i64 Tryd.prog
  have hs1 := bs_size t
  have hs2 := bs_size z
  rw [List.length_append] at hlen
  have q1 : z.length + t.length ≤ 30 := by omega
  have q2 : sc ≤ (z.length : Int) + (t.length : Int) := by omega
  have HLEN := Lib.hid hlen
  clear hlen
  have h1 : ¬ sc < 0 := by omega
  have h2 : ¬ 9 < sc := by omega
  by_cases hneg : n < 0 <;> by_cases hsc : 0 < sc
  all_goals
    go_enter Tryd.func21, Tryd.ntmps21
    go_wp2_with fail
    refine HF.out.mono ?_
    rintro e w' ⟨rfl, hb⟩
    go_wp2_with fail
    refine (HC.out _).mono ?_
    rintro e w2 ⟨rfl, rfl⟩
    go_wp2_with fail
    refine (HR.out _).mono ?_
    rintro e w2 ⟨rfl, hb2⟩
    go_wp2_with fail
    try (go_quiet (fail); go_wp2_with fail)
    go_ret2
    refine ⟨ret2 (vstr ?_) rfl, by first | exact hb.trans (hb2.mono hb.size) | exact below_dn (hb.trans (hb2.mono hb.size)) _⟩
    rw [HT.out, ← bs_append]
    first | rw [if_pos (show n < 0 by omega)] | rw [if_neg (show ¬ n < 0 by omega)]
    first | rw [← point_bs z t sc hsc] | (rw [point_no z t sc (by omega)])
    first | rfl | (rw [bs_nil_append])

theorem decimal_arg (l : List UInt8) (sc : Int) (h : sc < 0 ∨ 9 < sc) (w : World) : Calls Tryd.prog 23 #[.string (bs l), .int .i64 sc] w fun e w' => e = .returned (.tuple #[.int .i64 (decL l sc).1, .int .i64 (decL l sc).2]) ∧ Below w.heap.size w w' := by
  have e : decL l sc = (0, 1) := by unfold decL; rw [if_pos h]
  rw [e]
  by_cases h1 : sc < 0
  · go_enter Tryd.func23, Tryd.ntmps23
    go_wp2
    go_ret2
    exact ⟨rfl, Below.refl _ _⟩
  · have h2 : 9 < sc := by omega
    go_enter Tryd.func23, Tryd.ntmps23
    go_wp2
    go_ret2
    exact ⟨rfl, Below.refl _ _⟩

theorem parseInt_any (l : List UInt8) (hl : l.length ≤ 281474976710656) (w : World) (hL : LayN w) : Calls Tryd.prog 53 #[.string (bs l), .int .i64 10, .int .i64 64] w fun e w' =>
    ∃ v ev, e = .returned (.tuple #[.int .i64 v, ev]) ∧ Below w.heap.size w w' ∧ ((ev = .nilIface ∧ endOf (parseIntB 64 l) = (v, 0)) ∨ (∃ t p, ev = .iface t (.pointer (some p))) ∧ endOf (parseIntB 64 l) = (0, 70)) := by
  have hz := bs_size l
  have hd := bs_data l
  cases hp : parseIntB 64 l
  · rename_i v
    refine (Tryd.strconv_ParseInt_10_at64_ok (bs l) (by omega) v hp w).mono fun e w' ⟨he, hw⟩ => ⟨v, .nilIface, he, ?_, .inl ⟨rfl, rfl⟩⟩
    rcases hw with rfl | ⟨t, rfl⟩
    · exact Below.refl _ _
    · exact ⟨rfl, rfl, rfl, by rw [Lib.bytesWorld_size]; omega, fun i hi => Lib.bytesWorld_at_old w _ t i hi⟩
  · obtain ⟨tp, p, hv⟩ := hL.syn
    refine (Any.strconv_ParseInt_10_at64_syntax_var Tryd.laysC174 (bs l) (by omega) hp tp p w hv).mono fun e w' ⟨N, he, _, _, hw⟩ => ⟨_, _, he, hw, .inr ⟨⟨_, _, rfl⟩, rfl⟩⟩
  · obtain ⟨tp, p, hv⟩ := hL.rng
    refine (Any.strconv_ParseInt_10_at64_range_var Tryd.laysC174 (bs l) (by omega) hp tp p w hv).mono fun e w' ⟨N, he, _, _, hw⟩ => ⟨_, _, he, hw, .inr ⟨⟨_, _, rfl⟩, rfl⟩⟩

set_option maxHeartbeats 800000 in
theorem decimal_good (l : List UInt8) (sc : Int) (h0 : 0 ≤ sc) (h9 : sc ≤ 9) (hl : l.length ≤ 140737488355328) (w : World) (hL : LayN w) :
    Calls Tryd.prog 23 #[.string (bs l), .int .i64 sc] w fun e w' => e = .returned (.tuple #[.int .i64 (decL l sc).1, .int .i64 (decL l sc).2]) ∧ Below w.heap.size w w' := by
  have h1 : ¬ sc < 0 := by omega
  have h2 : ¬ 9 < sc := by omega
  have hdec : decL l sc = if badDec l sc then (0, 70) else endOf (parseIntB 64 (allL l sc)) := by unfold decL; rw [if_neg (by omega)]
  have hC := fun W => cutPrefix_minus l W
  have htl : (trimPrefix l [45]).length ≤ 140737488355328 := by
    unfold trimPrefix
    split
    · rw [List.length_drop]; omega
    · exact hl
  unfold badDec allL signOf at hdec
  generalize trimPrefix l [45] = m at *
  generalize hasPrefix l [45] = below at *
  have HC := Lib.hid hC
  have HK := Lib.hid (fun W => cutPoint' m (by omega) W)
  obtain ⟨hcl, hpt⟩ := cut_len m
  generalize (cutP m).1 = A at *
  generalize (cutP m).2.1 = B at *
  generalize (cutP m).2.2 = pt at *
  have hAB : A.length + B.length ≤ 140737488355328 := by omega
  have HA := Lib.hid (fun W => digits_any A 1 19 (by omega) W)
  have HB := Lib.hid (fun W => digits_any B 1 sc (by omega) W)
  have zA := bs_size A
  have zB := bs_size B
  have hBs : pt = false ∨ digs B 1 sc = true → 0 ≤ sc - (B.length : Int) := by
    rintro (h | h)
    · rw [hpt h]; simp; omega
    · unfold digs at h
      simp only [Bool.and_eq_true, decide_eq_true_eq] at h
      omega
  have HBs := Lib.hid hBs
  have HDEC := Lib.hid hdec
  have HL := Lib.hid hL
  have HD := fun h => (head48 A h)
  have HHD := Lib.hid HD
  clear hC hdec hpt hBs hL HD htl hcl
  generalize hdA : digs A 1 19 = dA at *
  generalize hdB : digs B 1 sc = dB at *
  clear hdA hdB
  cases dA with
  | false =>
    have HR := Lib.hid (show decL l sc = (0, 70) by rw [HDEC.out]; rfl)
    clear HDEC
    go_enter Tryd.func23, Tryd.ntmps23
    go_wp2_with fail
    refine (HC.out _).mono ?_
    rintro e w' ⟨rfl, rfl⟩
    go_wp2_with fail
    refine (HK.out _).mono ?_
    rintro e w1 ⟨rfl, b1⟩
    go_wp2_with fail
    refine (HA.out _).mono ?_
    rintro e w2 ⟨rfl, b2⟩
    go_wp2_with fail
    go_ret2
    exact ⟨by rw [HR.out]; rfl, b1.trans (b2.mono b1.size)⟩
  | true =>
  by_cases c23 : 1 < A.length ∧ (A.head? == some 48) = true
  · obtain ⟨c2, c3⟩ := c23
    have c4 : ∀ h : 0 < A.length, (((bs A)[0]'(by rw [zA]; exact h)).toNat : Int) = 48 := fun h => (HHD.out _).2 c3
    have HR := Lib.hid (show decL l sc = (0, 70) by rw [HDEC.out, c3, decide_eq_true c2]; rfl)
    clear c3 HDEC
    go_enter Tryd.func23, Tryd.ntmps23
    go_wp2_with fail
    refine (HC.out _).mono ?_
    rintro e w' ⟨rfl, rfl⟩
    go_wp2_with fail
    refine (HK.out _).mono ?_
    rintro e w1 ⟨rfl, b1⟩
    go_wp2_with fail
    refine (HA.out _).mono ?_
    rintro e w2 ⟨rfl, b2⟩
    go_wp2_with fail
    go_ret2
    exact ⟨by rw [HR.out]; rfl, b1.trans (b2.mono b1.size)⟩
  have c4 : ∀ h : 1 < A.length, ¬ (((bs A)[0]'(by rw [zA]; omega)).toNat : Int) = 48 := fun h h3 => c23 ⟨h, (HHD.out _).1 h3⟩
  have HC4 := Lib.hid c4
  clear c4
  have hb0 : (decide (1 < A.length) && A.head? == some 48) = false := by
    cases h1 : decide (1 < A.length)
    · rfl
    · cases h2 : A.head? == some 48
      · rfl
      · exact absurd ⟨of_decide_eq_true h1, h2⟩ c23
  rw [hb0] at HDEC
  clear c23 hb0
  by_cases c5 : pt = true ∧ dB = false
  · obtain ⟨rfl, rfl⟩ := c5
    have HR := Lib.hid (show decL l sc = (0, 70) by rw [HDEC.out]; rfl)
    clear HDEC
    go_enter Tryd.func23, Tryd.ntmps23
    go_wp2_with fail
    refine (HC.out _).mono ?_
    rintro e w' ⟨rfl, rfl⟩
    go_wp2_with fail
    refine (HK.out _).mono ?_
    rintro e w1 ⟨rfl, b1⟩
    go_wp2_with fail
    refine (HA.out _).mono ?_
    rintro e w2 ⟨rfl, b2⟩
    go_wp2_with (go_at_call 52; refine (HB.out _).mono ?_; rintro e w3 ⟨rfl, b3⟩)
    all_goals first
      | (exfalso; exact HC4.out (by omega) (by assumption))
      | (go_ret2; exact ⟨by rw [HR.out]; rfl, (b1.trans (b2.mono b1.size)).trans (b3.mono (Nat.le_trans b1.size b2.size))⟩)
  have hk0 : 0 ≤ sc - (B.length : Int) := HBs.out (by cases pt <;> cases dB <;> simp_all)
  have hk1 : sc - (B.length : Int) ≤ 1000 := by omega
  have hR := fun W => repeat0 _ hk0 hk1 W
  obtain ⟨z, hz⟩ : ∃ z, z = List.replicate (sc - (B.length : Int)).toNat (48 : UInt8) := ⟨_, rfl⟩
  have hz9 : z.length ≤ 9 := by rw [hz, List.length_replicate]; omega
  rw [← hz] at hR HDEC
  have HRep := Lib.hid hR
  have zZ := bs_size z
  have e1 : decL l sc = endOf (parseIntB 64 ((if below = true then [45] else []) ++ (A ++ B ++ z))) := by
    rw [HDEC.out]
    cases pt <;> cases dB <;> simp_all
  have hlen : ((if below = true then [45] else []) ++ (A ++ B ++ z)).length ≤ 281474976710656 := by
    rw [List.length_append, List.length_append, List.length_append]
    split <;> simp <;> omega
  have HP := Lib.hid (fun W hW => parseInt_any _ hlen W hW)
  have HE := Lib.hid e1
  clear hz hR HDEC e1 hlen HBs
  have eA : bs A ++ bs B ++ bs z = bs (A ++ B ++ z) := by rw [bs_append, bs_append]
  have HEA := Lib.hid eA
  clear eA
  by_cases hbe : below = true <;> by_cases hpt : pt = true
  · -- below, point
    obtain rfl : below = true := by simpa using hbe
    obtain rfl : pt = true := by simpa using hpt
    obtain rfl : dB = true := by cases dB <;> simp_all
    clear c5 hbe hpt
    have hArg : (⟨#[45]⟩ : ByteArray) ++ (bs A ++ bs B ++ bs z) = bs ((if true = true then [45] else []) ++ (A ++ B ++ z)) := by rw [HEA.out]; first | rfl | exact bs_append [45] _
    rw [← hArg] at HP
    clear hArg
    go_enter Tryd.func23, Tryd.ntmps23
    go_wp2_with fail
    refine (HC.out _).mono ?_
    rintro e w' ⟨rfl, rfl⟩
    go_wp2_with fail
    refine (HK.out _).mono ?_
    rintro e w1 ⟨rfl, b1⟩
    go_wp2_with fail
    refine (HA.out _).mono ?_
    rintro e w2 ⟨rfl, b2⟩
    go_wp2_with (first | (go_at_call 52; refine (HB.out _).mono ?_; rintro e w3 ⟨rfl, b3⟩) | (go_at_call 50; refine (HRep.out _).mono ?_; rintro e w4 ⟨rfl, b4⟩))
    all_goals first
      | (exfalso; exact HC4.out (by omega) (by assumption))
      | skip
    all_goals
      refine (HP.out _ (HL.out.below (below_next (below_next (b1.trans (b2.mono b1.size)) (Nat.le_refl _) b3) (Nat.le_refl _) b4))).mono ?_
      rintro e w5 ⟨v, ev, rfl, b5, hv⟩
      have HV := Lib.hid hv
      clear hv
      rcases HV.out with ⟨rfl, hv⟩ | ⟨⟨t, p, rfl⟩, hv⟩
      all_goals
        have H5 := Lib.hid hv
        clear hv HV
        go_wp2_with fail
        go_ret2
        exact ⟨by rw [HE.out, H5.out]; rfl, below_next (below_next (below_next (b1.trans (b2.mono b1.size)) (Nat.le_refl _) b3) (Nat.le_refl _) b4) (Nat.le_refl _) b5⟩
  · -- below, no point
    obtain rfl : below = true := by simpa using hbe
    obtain rfl : pt = false := by simpa using hpt
    clear c5 hbe hpt
    have hArg : (⟨#[45]⟩ : ByteArray) ++ (bs A ++ bs B ++ bs z) = bs ((if true = true then [45] else []) ++ (A ++ B ++ z)) := by rw [HEA.out]; first | rfl | exact bs_append [45] _
    rw [← hArg] at HP
    clear hArg
    go_enter Tryd.func23, Tryd.ntmps23
    go_wp2_with fail
    refine (HC.out _).mono ?_
    rintro e w' ⟨rfl, rfl⟩
    go_wp2_with fail
    refine (HK.out _).mono ?_
    rintro e w1 ⟨rfl, b1⟩
    go_wp2_with fail
    refine (HA.out _).mono ?_
    rintro e w2 ⟨rfl, b2⟩
    go_wp2_with (first | (go_at_call 52; refine (HB.out _).mono ?_; rintro e w3 ⟨rfl, b3⟩) | (go_at_call 50; refine (HRep.out _).mono ?_; rintro e w4 ⟨rfl, b4⟩))
    all_goals first
      | (exfalso; exact HC4.out (by omega) (by assumption))
      | skip
    all_goals
      refine (HP.out _ (HL.out.below (below_next (b1.trans (b2.mono b1.size)) (Nat.le_refl _) b4))).mono ?_
      rintro e w5 ⟨v, ev, rfl, b5, hv⟩
      have HV := Lib.hid hv
      clear hv
      rcases HV.out with ⟨rfl, hv⟩ | ⟨⟨t, p, rfl⟩, hv⟩
      all_goals
        have H5 := Lib.hid hv
        clear hv HV
        go_wp2_with fail
        go_ret2
        exact ⟨by rw [HE.out, H5.out]; rfl, below_next (below_next (b1.trans (b2.mono b1.size)) (Nat.le_refl _) b4) (Nat.le_refl _) b5⟩
  · -- not below, point
    obtain rfl : below = false := by simpa using hbe
    obtain rfl : pt = true := by simpa using hpt
    obtain rfl : dB = true := by cases dB <;> simp_all
    clear c5 hbe hpt
    have hArg : bs A ++ bs B ++ bs z = bs ((if false = true then [45] else []) ++ (A ++ B ++ z)) := by rw [HEA.out]; first | rfl | exact bs_append [45] _
    rw [← hArg] at HP
    clear hArg
    go_enter Tryd.func23, Tryd.ntmps23
    go_wp2_with fail
    refine (HC.out _).mono ?_
    rintro e w' ⟨rfl, rfl⟩
    go_wp2_with fail
    refine (HK.out _).mono ?_
    rintro e w1 ⟨rfl, b1⟩
    go_wp2_with fail
    refine (HA.out _).mono ?_
    rintro e w2 ⟨rfl, b2⟩
    go_wp2_with (first | (go_at_call 52; refine (HB.out _).mono ?_; rintro e w3 ⟨rfl, b3⟩) | (go_at_call 50; refine (HRep.out _).mono ?_; rintro e w4 ⟨rfl, b4⟩))
    all_goals first
      | (exfalso; exact HC4.out (by omega) (by assumption))
      | skip
    all_goals
      refine (HP.out _ (HL.out.below (below_next (below_next (b1.trans (b2.mono b1.size)) (Nat.le_refl _) b3) (Nat.le_refl _) b4))).mono ?_
      rintro e w5 ⟨v, ev, rfl, b5, hv⟩
      have HV := Lib.hid hv
      clear hv
      rcases HV.out with ⟨rfl, hv⟩ | ⟨⟨t, p, rfl⟩, hv⟩
      all_goals
        have H5 := Lib.hid hv
        clear hv HV
        go_wp2_with fail
        go_ret2
        exact ⟨by rw [HE.out, H5.out]; rfl, below_next (below_next (below_next (b1.trans (b2.mono b1.size)) (Nat.le_refl _) b3) (Nat.le_refl _) b4) (Nat.le_refl _) b5⟩
  · -- not below, no point
    obtain rfl : below = false := by simpa using hbe
    obtain rfl : pt = false := by simpa using hpt
    clear c5 hbe hpt
    have hArg : bs A ++ bs B ++ bs z = bs ((if false = true then [45] else []) ++ (A ++ B ++ z)) := by rw [HEA.out]; first | rfl | exact bs_append [45] _
    rw [← hArg] at HP
    clear hArg
    go_enter Tryd.func23, Tryd.ntmps23
    go_wp2_with fail
    refine (HC.out _).mono ?_
    rintro e w' ⟨rfl, rfl⟩
    go_wp2_with fail
    refine (HK.out _).mono ?_
    rintro e w1 ⟨rfl, b1⟩
    go_wp2_with fail
    refine (HA.out _).mono ?_
    rintro e w2 ⟨rfl, b2⟩
    go_wp2_with (first | (go_at_call 52; refine (HB.out _).mono ?_; rintro e w3 ⟨rfl, b3⟩) | (go_at_call 50; refine (HRep.out _).mono ?_; rintro e w4 ⟨rfl, b4⟩))
    all_goals first
      | (exfalso; exact HC4.out (by omega) (by assumption))
      | skip
    all_goals
      refine (HP.out _ (HL.out.below (below_next (b1.trans (b2.mono b1.size)) (Nat.le_refl _) b4))).mono ?_
      rintro e w5 ⟨v, ev, rfl, b5, hv⟩
      have HV := Lib.hid hv
      clear hv
      rcases HV.out with ⟨rfl, hv⟩ | ⟨⟨t, p, rfl⟩, hv⟩
      all_goals
        have H5 := Lib.hid hv
        clear hv HV
        go_wp2_with fail
        go_ret2
        exact ⟨by rw [HE.out, H5.out]; rfl, below_next (below_next (b1.trans (b2.mono b1.size)) (Nat.le_refl _) b4) (Nat.le_refl _) b5⟩
end Go.Proofs.YtfmholpbpghojaaDoor