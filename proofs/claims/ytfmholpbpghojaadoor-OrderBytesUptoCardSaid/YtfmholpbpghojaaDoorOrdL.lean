import Derived.Test.YtfmholpbpghojaaDoorBase
import Derived.Lib.ParseIntBTie
import Derived.Lib.ItoaNum
import Derived.Lib.ItoaLen
import Derived.Lib.Repeat
import Derived.Lib.Bytealg
import Derived.Lib.Strings
import Derived.Shelf.GgClosure.StringsIndexFunc
import Derived.Laws.RangeAny
import Derived.Laws.RangeString
/-! Order, plain: what order.Text and order.Decimal compute, over lists of bytes; a number that is written is read again. -/
namespace Go.Proofs.YtfmholpbpghojaaDoor
set_option linter.unusedVariables false
set_option linter.unusedSimpArgs false
open Go.Lib

def isDig (c : UInt8) : Bool := decide (48 ≤ c.toNat) && decide (c.toNat ≤ 57)
def digs (l : List UInt8) (a b : Int) : Bool := decide (a ≤ l.length) && decide ((l.length : Int) ≤ b) && l.all isDig
/-- The text around the first point. -/
def cutP (l : List UInt8) : List UInt8 × List UInt8 × Bool :=
  if 0 ≤ indexByte l 46 then (l.take (indexByte l 46).toNat, l.drop ((indexByte l 46).toNat + 1), true) else (l, [], false)
def signOf (l : List UInt8) : List UInt8 := if hasPrefix l [45] then [45] else []
/-- All digits of a decimal, the missing ones behind the point filled in. -/
def allL (l : List UInt8) (sc : Int) : List UInt8 :=
  signOf l ++ ((cutP (trimPrefix l [45])).1 ++ (cutP (trimPrefix l [45])).2.1 ++ List.replicate (sc - ((cutP (trimPrefix l [45])).2.1.length : Int)).toNat 48)
def badDec (l : List UInt8) (sc : Int) : Bool :=
  !(digs (cutP (trimPrefix l [45])).1 1 19) || (decide (1 < (cutP (trimPrefix l [45])).1.length) && (cutP (trimPrefix l [45])).1.head? == some 48) ||
    ((cutP (trimPrefix l [45])).2.2 && !(digs (cutP (trimPrefix l [45])).2.1 1 sc))
def endOf : NumEnd Int → Int × Int
  | .ok v => (v, 0)
  | _ => (0, 70)
/-- order.Decimal: the number and the error. -/
def decL (l : List UInt8) (sc : Int) : Int × Int :=
  if sc < 0 ∨ 9 < sc then (0, 1) else if badDec l sc then (0, 70) else endOf (parseIntB 64 (allL l sc))

def padL (d : List UInt8) (sc : Int) : List UInt8 := List.replicate (mx 0 (sc + 1 - (d.length : Int))).toNat 48 ++ d
def pointL (d : List UInt8) (sc : Int) : List UInt8 := if 0 < sc then d.take ((d.length : Int) - sc).toNat ++ 46 :: d.drop ((d.length : Int) - sc).toNat else d
/-- order.Text, the scale being one. -/
def textL (n : Int) (sc : Int) : List UInt8 := (if n < 0 then [45] else []) ++ pointL (padL (decDigits n.natAbs) sc) sc

/-! ### digits -/
def isNo (r : Nat) : Bool := decide (r < 48) || decide (57 < r)
theorem idx_digits (s : ByteArray) : ∀ (f pos : Nat), s.size ≤ f + pos → (idxFuncFrom isNo true s f pos < 0 ↔ (s.data.toList.drop pos).all isDig = true)
  | 0, pos, h => by
    have : s.data.toList.drop pos = [] := List.drop_eq_nil_of_le (by rw [← size_eq]; omega)
    simp [idxFuncFrom, this]
  | f + 1, pos, h => by
    unfold idxFuncFrom
    by_cases hp : pos < s.size
    · rw [if_pos hp]
      have hp' : pos < s.data.toList.length := by rw [← size_eq]; exact hp
      have hd : s.data.toList.drop pos = s.data.toList[pos] :: s.data.toList.drop (pos + 1) := List.drop_eq_getElem_cons hp'
      have hb : s.data.toList[pos] = s[pos] := rfl
      by_cases ha : (s[pos]'hp).toNat < 128
      · rw [decode_ascii s pos hp ha]
        dsimp only
        by_cases hn : isNo (s[pos]'hp).toNat = true
        · rw [if_pos hn, hd, List.all_cons, hb]
          have : isDig (s[pos]'hp) = false := by
            unfold isNo at hn; unfold isDig
            simp only [Bool.or_eq_true, decide_eq_true_eq] at hn
            rcases hn with hn | hn
            · simp [show ¬ 48 ≤ (s[pos]'hp).toNat by omega]
            · simp [show ¬ (s[pos]'hp).toNat ≤ 57 by omega]
          rw [this]
          simp
        · rw [if_neg hn, hd, List.all_cons, hb]
          have : isDig (s[pos]'hp) = true := by
            unfold isNo at hn; unfold isDig
            simp only [Bool.or_eq_true, decide_eq_true_eq, not_or] at hn
            simp only [Bool.and_eq_true, decide_eq_true_eq]
            omega
          rw [this, Bool.true_and]
          exact idx_digits s f (pos + 1) (by omega)
      · have hh := decode_high s pos hp (by omega)
        have hn : isNo (Utf8.decode s pos).1 = true := by unfold isNo; simp only [Bool.or_eq_true, decide_eq_true_eq]; omega
        rw [if_pos hn, hd, List.all_cons, hb]
        have : isDig (s[pos]'hp) = false := by unfold isDig; simp [show ¬ (s[pos]'hp).toNat ≤ 57 by omega]
        rw [this]
        simp
    · rw [if_neg hp]
      have : s.data.toList.drop pos = [] := List.drop_eq_nil_of_le (by rw [← size_eq]; omega)
      simp [this]
theorem idx_digs (s : ByteArray) : decide (idxFunc isNo true s < 0) = s.data.toList.all isDig := by
  have h := idx_digits s s.size 0 (by omega)
  rw [List.drop_zero] at h
  rw [Bool.eq_iff_iff, decide_eq_true_eq]
  exact h

/-! ### a number that is written -/
theorem parse_digits (M : Nat) (hM : M ≤ 18446744073709551615) : ∀ (u : Nat) (r : List UInt8), u ≤ M → parseUintM M 0 (decDigits u ++ r) = parseUintM M u r := by
  intro u
  induction u using Nat.strongRecOn with
  | _ u ih =>
    intro r hu
    rw [decDigits]
    split
    · rename_i h
      simp only [List.singleton_append, parseUintM]
      have e : (UInt8.ofNat (48 + u)).toNat = 48 + u := by simp; omega
      rw [e, if_pos (by omega), if_neg (by omega), if_neg (by omega)]
      congr 1
      omega
    · rename_i h
      rw [List.append_assoc, ih (u / 10) (by omega) _ (by omega)]
      simp only [List.singleton_append, parseUintM]
      have e : (UInt8.ofNat (48 + u % 10)).toNat = 48 + u % 10 := by simp; omega
      rw [e, if_pos (by omega), if_neg (by omega), if_neg (by omega)]
      congr 1
      omega

theorem parse_zeros (M : Nat) (r : List UInt8) : ∀ z : Nat, parseUintM M 0 (List.replicate z 48 ++ r) = parseUintM M 0 r
  | 0 => rfl
  | z + 1 => by
    rw [List.replicate_succ, List.cons_append, parseUintM]
    have e : (48 : UInt8).toNat = 48 := rfl
    rw [e, if_pos (by omega), if_neg (by omega), if_neg (by omega)]
    exact parse_zeros M r z

theorem dec_all (u : Nat) : (decDigits u).all isDig = true := by
  induction u using Nat.strongRecOn with
  | _ u ih =>
    rw [decDigits]
    split
    · rename_i h
      have e : (UInt8.ofNat (48 + u)).toNat = 48 + u := by simp; omega
      simp only [List.all_cons, List.all_nil, isDig, e, Bool.and_true, Bool.and_eq_true, decide_eq_true_eq]
      omega
    · rename_i h
      have e : (UInt8.ofNat (48 + u % 10)).toNat = 48 + u % 10 := by simp; omega
      simp only [List.all_append, ih (u / 10) (by omega), List.all_cons, List.all_nil, isDig, e, Bool.and_true, Bool.true_and, Bool.and_eq_true, decide_eq_true_eq]
      omega
theorem dec_len (k : Nat) : ∀ u, u < 10 ^ (k + 1) → (decDigits u).length ≤ k + 1 := by
  induction k with
  | zero =>
    intro u h
    rw [decDigits, dif_pos (by simpa using h)]
    simp
  | succ k ih =>
    intro u h
    rw [decDigits]
    split
    · simp
    · rw [List.length_append, List.length_singleton]
      have : u / 10 < 10 ^ (k + 1) := by rw [Nat.pow_succ] at h; omega
      have := ih _ this
      omega
theorem dec_pos (u : Nat) : 1 ≤ (decDigits u).length := by
  rw [decDigits]
  split <;> simp
theorem dec_head (u : Nat) (h : 1 ≤ u) : ∃ c t, decDigits u = c :: t ∧ c ≠ 48 ∧ c ≠ 45 ∧ c ≠ 43 := by
  induction u using Nat.strongRecOn with
  | _ u ih =>
    rw [decDigits]
    split
    · rename_i h1
      have e : (UInt8.ofNat (48 + u)).toNat = 48 + u := by simp; omega
      refine ⟨_, [], rfl, ?_, ?_, ?_⟩ <;> (intro h2; rw [h2] at e; simp at e; omega)
    · rename_i h1
      obtain ⟨c, t, h2, h3, h4, h5⟩ := ih (u / 10) (by omega) (by omega)
      exact ⟨c, t ++ [UInt8.ofNat (48 + u % 10)], by rw [h2]; rfl, h3, h4, h5⟩

theorem index_lt (c : UInt8) : ∀ l : List UInt8, -1 ≤ indexByte l c ∧ (indexByte l c < l.length)
  | [] => ⟨by simp [indexByte], by simp [indexByte]⟩
  | b :: l => by
    have ih := index_lt c l
    rw [indexByte, List.length_cons]
    split
    · omega
    · split <;> omega
theorem index_none (a : List UInt8) (h : a.all isDig = true) : indexByte a 46 = -1 := by
  induction a with
  | nil => rfl
  | cons c a ih =>
    rw [List.all_cons, Bool.and_eq_true] at h
    have hc : (c == 46) = false := by
      rw [beq_eq_false_iff_ne]
      rintro rfl
      exact absurd h.1 (by decide)
    simp [indexByte, hc, ih h.2]
theorem index_some (a b : List UInt8) (h : a.all isDig = true) : indexByte (a ++ 46 :: b) 46 = a.length := by
  induction a with
  | nil => rfl
  | cons c a ih =>
    rw [List.all_cons, Bool.and_eq_true] at h
    have hc : (c == 46) = false := by
      rw [beq_eq_false_iff_ne]
      rintro rfl
      exact absurd h.1 (by decide)
    have hne : ((a.length : Int) == -1) = false := by rw [beq_eq_false_iff_ne]; omega
    simp [indexByte, hc, ih h.2, hne]
theorem cut_len (l : List UInt8) : (cutP l).1.length + (cutP l).2.1.length ≤ l.length ∧ ((cutP l).2.2 = false → (cutP l).2.1 = []) := by
  by_cases h : 0 ≤ indexByte l 46
  · have e : cutP l = (l.take (indexByte l 46).toNat, l.drop ((indexByte l 46).toNat + 1), true) := by unfold cutP; rw [if_pos h]
    rw [e]
    simp only [List.length_take, List.length_drop]
    exact ⟨by omega, fun h => by cases h⟩
  · have e : cutP l = (l, [], false) := by unfold cutP; rw [if_neg h]
    rw [e]
    exact ⟨by simp, fun _ => rfl⟩
theorem head48 (A : List UInt8) (h : 0 < (bs A).size) : (((bs A)[0]'h).toNat : Int) = 48 ↔ (A.head? == some 48) = true := by
  cases A with
  | nil => simp [bs] at h; exact absurd h (by decide)
  | cons c t =>
    have e : ((bs (c :: t))[0]'h) = c := rfl
    rw [e]
    simp only [List.head?_cons, beq_iff_eq, Option.some.injEq]
    constructor
    · intro hc
      exact UInt8.toNat_inj.1 (by have : (48 : UInt8).toNat = 48 := rfl; omega)
    · rintro rfl
      rfl
theorem cut_none (a : List UInt8) (h : a.all isDig = true) : cutP a = (a, [], false) := by
  unfold cutP; rw [index_none a h, if_neg (by decide)]
theorem cut_some (a b : List UInt8) (h : a.all isDig = true) : cutP (a ++ 46 :: b) = (a, b, true) := by
  unfold cutP
  rw [index_some a b h, if_pos (by omega)]
  simp

/-- The digits with the missing ones filled in. -/
theorem pad_facts (u : Nat) (sc : Int) (h0 : 0 ≤ sc) (hu : u ≤ 9223372036854775808) (h9 : sc ≤ 9) :
    ∃ k z : Nat, padL (decDigits u) sc = List.replicate z 48 ++ decDigits u ∧ (padL (decDigits u) sc).length = sc.toNat + k ∧ 1 ≤ k ∧ k ≤ 19 ∧ (1 < k → z = 0) ∧ (padL (decDigits u) sc).all isDig = true := by
  have hl := dec_len 18 u (by omega)
  have hp := dec_pos u
  have ha : ∀ z : Nat, (List.replicate z (48 : UInt8) ++ decDigits u).all isDig = true := fun z => by
    rw [List.all_append, dec_all, Bool.and_true, List.all_eq_true]
    intro x hx
    rw [(List.mem_replicate.1 hx).2]
    rfl
  unfold padL
  refine ⟨(mx 0 (sc + 1 - ((decDigits u).length : Int))).toNat + (decDigits u).length - sc.toNat, _, rfl, ?_, ?_, ?_, ?_, ha _⟩
  all_goals unfold mx
  · rw [List.length_append, List.length_replicate]; split <;> omega
  · split <;> omega
  · split <;> omega
  · split <;> omega

theorem point_cut (d : List UInt8) (sc : Int) (k : Nat) (h0 : 0 ≤ sc) (hl : d.length = sc.toNat + k) (ha : d.all isDig = true) :
    cutP (pointL d sc) = if 0 < sc then (d.take k, d.drop k, true) else (d, [], false) := by
  unfold pointL
  split
  · have e : ((d.length : Int) - sc).toNat = k := by omega
    rw [e, cut_some _ _ (by rw [List.all_eq_true] at ha ⊢; intro x hx; exact ha x (List.mem_of_mem_take hx))]
  · exact cut_none d ha
theorem all_take {d : List UInt8} (ha : d.all isDig = true) (k : Nat) : (d.take k).all isDig = true := by
  rw [List.all_eq_true] at ha ⊢; intro x hx; exact ha x (List.mem_of_mem_take hx)
theorem all_drop {d : List UInt8} (ha : d.all isDig = true) (k : Nat) : (d.drop k).all isDig = true := by
  rw [List.all_eq_true] at ha ⊢; intro x hx; exact ha x (List.mem_of_mem_drop hx)

theorem point_head (d : List UInt8) (sc : Int) (k : Nat) (h0 : 0 ≤ sc) (hk : 1 ≤ k) (hl : d.length = sc.toNat + k) (ha : d.all isDig = true) : ∃ c t, pointL d sc = c :: t ∧ isDig c = true := by
  cases d with
  | nil => simp at hl; omega
  | cons c t =>
    rw [List.all_cons, Bool.and_eq_true] at ha
    unfold pointL
    split
    · have e : ((((c :: t).length : Nat) : Int) - sc).toNat = (k - 1) + 1 := by omega
      rw [e, List.take_succ_cons, List.cons_append]
      exact ⟨c, _, rfl, ha.1⟩
    · exact ⟨c, t, rfl, ha.1⟩
theorem no_sign {c : UInt8} {t : List UInt8} (h : isDig c = true) : hasPrefix (c :: t) [45] = false ∧ trimPrefix (c :: t) [45] = c :: t := by
  have e : hasPrefix (c :: t) [45] = false := by
    unfold hasPrefix
    simp only [List.isPrefixOf, Bool.and_true, beq_eq_false_iff_ne]
    rintro rfl
    exact absurd h (by decide)
  exact ⟨e, by unfold trimPrefix; rw [e]; rfl⟩

theorem text_sign (n : Int) (sc : Int) (h0 : 0 ≤ sc) (h9 : sc ≤ 9) (hn0 : -9223372036854775808 ≤ n) (hn1 : n ≤ 9223372036854775807) :
    signOf (textL n sc) = (if n < 0 then [45] else []) ∧ trimPrefix (textL n sc) [45] = pointL (padL (decDigits n.natAbs) sc) sc := by
  obtain ⟨k, z, e1, e2, e3, e4, e5, e6⟩ := pad_facts n.natAbs sc h0 (by omega) h9
  obtain ⟨c, t, e7, e8⟩ := point_head _ sc k h0 e3 e2 e6
  unfold textL signOf
  split
  · simp [hasPrefix, trimPrefix]
  · rw [List.nil_append, e7, (no_sign e8).1, (no_sign e8).2]
    exact ⟨rfl, rfl⟩

/-- **A NUMBER THAT IS WRITTEN IS READ AGAIN.** -/
theorem dec_text (n : Int) (sc : Int) (h0 : 0 ≤ sc) (h9 : sc ≤ 9) (hn0 : -9223372036854775808 ≤ n) (hn1 : n ≤ 9223372036854775807) : decL (textL n sc) sc = (n, 0) := by
  obtain ⟨k, z, e1, e2, e3, e4, e5, e6⟩ := pad_facts n.natAbs sc h0 (by omega) h9
  obtain ⟨s1, s2⟩ := text_sign n sc h0 h9 hn0 hn1
  have hc := point_cut _ sc k h0 e2 e6
  generalize hd : padL (decDigits n.natAbs) sc = d at *
  have hbad : badDec (textL n sc) sc = false := by
    unfold badDec
    rw [s2, hc]
    split
    · rename_i hs
      have h1 : digs (d.take k) 1 19 = true := by
        unfold digs
        rw [all_take e6]
        simp only [List.length_take, Bool.and_true, Bool.and_eq_true, decide_eq_true_eq]
        omega
      have h2 : digs (d.drop k) 1 sc = true := by
        unfold digs
        rw [all_drop e6]
        simp only [List.length_drop, Bool.and_true, Bool.and_eq_true, decide_eq_true_eq]
        omega
      have h3 : (decide (1 < (d.take k).length) && (d.take k).head? == some 48) = false := by
        rw [Bool.and_eq_false_iff]
        by_cases hk : 1 < k
        · right
          have hz := e5 hk
          subst hz
          by_cases hu : 1 ≤ n.natAbs
          · obtain ⟨c, t, hct, hne, _⟩ := dec_head n.natAbs hu
            rw [e1, hct]
            obtain ⟨k', rfl⟩ : ∃ k', k = k' + 1 := ⟨k - 1, by omega⟩
            simp [hne]
          · have : n.natAbs = 0 := by omega
            rw [this, decDigits, dif_pos (by omega)] at e1
            rw [e1] at e2
            simp at e2
            omega
        · left
          simp only [List.length_take, decide_eq_false_iff_not]
          omega
      simp only [h1, h2, h3]
      rfl
    · rename_i hs
      have hs0 : sc = 0 := by omega
      subst hs0
      have h1 : digs d 1 19 = true := by
        unfold digs
        rw [e6]
        simp only [Bool.and_true, Bool.and_eq_true, decide_eq_true_eq]
        omega
      have h3 : (decide (1 < d.length) && d.head? == some 48) = false := by
        rw [Bool.and_eq_false_iff]
        by_cases hk : 1 < k
        · right
          have hz := e5 hk
          subst hz
          by_cases hu : 1 ≤ n.natAbs
          · obtain ⟨c, t, hct, hne, _⟩ := dec_head n.natAbs hu
            rw [e1, hct]
            simp [hne]
          · have : n.natAbs = 0 := by omega
            rw [this, decDigits, dif_pos (by omega)] at e1
            rw [e1] at e2
            simp at e2
            omega
        · left
          simp only [decide_eq_false_iff_not]
          omega
      simp only [h1, h3]
      rfl
  have hall : allL (textL n sc) sc = (if n < 0 then [45] else []) ++ d := by
    unfold allL
    by_cases hs : 0 < sc
    · rw [if_pos hs] at hc
      have e : (sc - ((d.drop k).length : Int)).toNat = 0 := by rw [List.length_drop]; omega
      rw [s1, s2, hc]
      dsimp only
      rw [e, List.replicate_zero, List.append_nil, List.take_append_drop]
    · rw [if_neg hs] at hc
      have e : (sc - (([] : List UInt8).length : Int)).toNat = 0 := by simp only [List.length_nil]; omega
      rw [s1, s2, hc]
      dsimp only
      rw [e, List.replicate_zero, List.append_nil, List.append_nil]
  unfold decL
  rw [if_neg (by omega), hbad, if_neg (by decide), hall]
  have hmag : parseUintB 64 d = .ok n.natAbs := by
    unfold parseUintB
    rw [if_neg (by intro h; rw [h] at e2; simp at e2; omega), e1, parse_zeros, ← List.append_nil (decDigits n.natAbs), parse_digits _ (by omega) _ _ (by omega)]
    rfl
  have hb : (2 : Nat) ^ (64 - 1) = 9223372036854775808 := by decide
  split
  · rename_i hneg
    rw [List.singleton_append, parseIntB_minus, hmag, hb]
    unfold signedC
    dsimp only
    rw [if_neg (by omega)]
    show ((-(n.natAbs : Int)), (0 : Int)) = (n, 0)
    rw [show (-(n.natAbs : Int)) = n by omega]
  · rename_i hpos
    rw [List.nil_append]
    cases hdc : d with
    | nil => rw [hdc] at e2; simp at e2; omega
    | cons c t =>
      have hcd : isDig c = true := by
        rw [hdc, List.all_cons, Bool.and_eq_true] at e6
        exact e6.1
      unfold isDig at hcd
      simp only [Bool.and_eq_true, decide_eq_true_eq] at hcd
      rw [parseIntB_plain 64 c t (by omega) (by omega), ← hdc, hmag, hb]
      unfold signlessC
      dsimp only
      rw [if_neg (by omega)]
      show (((n.natAbs : Int)), (0 : Int)) = (n, 0)
      rw [show ((n.natAbs : Int)) = n by omega]

theorem text_inj {a b sc : Int} (h0 : 0 ≤ sc) (h9 : sc ≤ 9) (ha0 : -9223372036854775808 ≤ a) (ha1 : a ≤ 9223372036854775807) (hb0 : -9223372036854775808 ≤ b) (hb1 : b ≤ 9223372036854775807)
    (h : textL a sc = textL b sc) : a = b := by
  have h1 := dec_text a sc h0 h9 ha0 ha1
  have h2 := dec_text b sc h0 h9 hb0 hb1
  rw [h, h2] at h1
  exact (Prod.mk.inj h1).1.symm
end Go.Proofs.YtfmholpbpghojaaDoor
