import Derived.Test.YtfmholpbpghojaaDoorOrdW
import Derived.Test.YtfmholpbpghojaaDoorOrdR
/-! Order: keys go in an order (plain); order.Compare's contract; the laws' own helpers; awake. -/
namespace Go.Proofs.YtfmholpbpghojaaDoor
set_option linter.unusedVariables false
set_option linter.unusedSimpArgs false
open Go.RowKit Go.Lib
open Go.Proofs.YtfmholpbpghojaaDoor.ROrderBytes

/-! ### bytes' order -/
theorem bl_irrefl : ∀ a : List UInt8, Op.bytesLess a a = false
  | [] => rfl
  | c :: a => by simp [Op.bytesLess, bl_irrefl a]
theorem bl_total : ∀ a b : List UInt8, Op.bytesLess a b = false → Op.bytesLess b a = false → a = b
  | [], [], _, _ => rfl
  | [], _ :: _, h, _ => by simp [Op.bytesLess] at h
  | _ :: _, [], _, h => by simp [Op.bytesLess] at h
  | c :: a, d :: b, h, k => by
    simp only [Op.bytesLess, Bool.or_eq_false_iff, decide_eq_false_iff_not, Bool.and_eq_false_iff, beq_eq_false_iff_ne] at h k
    have hcd : c = d := UInt8.toNat_inj.1 (by have h1 := h.1; have k1 := k.1; rw [UInt8.lt_iff_toNat_lt] at h1 k1; omega)
    subst hcd
    have h2 := h.2.resolve_left (by simp)
    have k2 := k.2.resolve_left (by simp)
    rw [bl_total a b h2 k2]
theorem bl_trans : ∀ a b c : List UInt8, Op.bytesLess a b = true → Op.bytesLess b c = true → Op.bytesLess a c = true
  | _, [], _, h, _ => by simp [Op.bytesLess] at h
  | _, _ :: _, [], _, h => by simp [Op.bytesLess] at h
  | [], _ :: _, _ :: _, _, _ => rfl
  | x :: a, y :: b, z :: c, h, k => by
    simp only [Op.bytesLess, Bool.or_eq_true, decide_eq_true_eq, Bool.and_eq_true, beq_iff_eq, UInt8.lt_iff_toNat_lt] at h k ⊢
    rcases h with h | ⟨rfl, h⟩
    · rcases k with k | ⟨rfl, k⟩
      · left; omega
      · left; exact h
    · rcases k with k | ⟨rfl, k⟩
      · left; exact k
      · right; exact ⟨rfl, bl_trans a b c h k⟩

/-! ### keys -/
structure Key where
  k : Int
  n : Int
  t : ByteArray
def sg (a b : Int) : Int := if a < b then -1 else if b < a then 1 else 0
def sgT (a b : ByteArray) : Int := if Op.bytesLess a.toList b.toList then -1 else if a.toList == b.toList then 0 else 1
def cmpK (a b : Key) : Int := if sg a.k b.k ≠ 0 then sg a.k b.k else if sg a.n b.n ≠ 0 then sg a.n b.n else sgT a.t b.t
def eqK (a b : Key) : Bool := a.k == b.k && (a.n == b.n && a.t.toList == b.t.toList)

theorem sgT_anti (a b : ByteArray) : sgT a b = - sgT b a := by
  unfold sgT
  cases h1 : Op.bytesLess a.toList b.toList <;> cases h2 : Op.bytesLess b.toList a.toList
  · have := bl_total _ _ h1 h2
    simp [this]
  · have hne : (a.toList == b.toList) = false := by
      rw [beq_eq_false_iff_ne]
      intro e
      rw [e, bl_irrefl] at h2
      cases h2
    simp [hne]
  · have hne : (b.toList == a.toList) = false := by
      rw [beq_eq_false_iff_ne]
      intro e
      rw [e, bl_irrefl] at h1
      cases h1
    simp [hne]
  · have := bl_trans _ _ _ h1 h2
    rw [bl_irrefl] at this
    cases this
theorem sgT_zero (a b : ByteArray) : sgT a b = 0 ↔ a.toList = b.toList := by
  unfold sgT
  cases h1 : Op.bytesLess a.toList b.toList
  · simp
  · simp only [if_true]
    constructor
    · intro h; cases h
    · intro e; rw [e, bl_irrefl] at h1; cases h1
theorem sgT_range (a b : ByteArray) : -1 ≤ sgT a b ∧ sgT a b ≤ 1 := by unfold sgT; split <;> (try split) <;> omega
theorem sgT_neg (a b : ByteArray) : sgT a b < 0 ↔ Op.bytesLess a.toList b.toList = true := by
  unfold sgT
  cases h1 : Op.bytesLess a.toList b.toList
  · simp only [Bool.false_eq_true, if_false, iff_false]
    split <;> omega
  · simp
theorem sgT_trans (a b c : ByteArray) (h : sgT a b < 0) (k : sgT b c < 0) : sgT a c < 0 := by
  rw [sgT_neg] at h k ⊢
  exact bl_trans _ _ _ h k
theorem sg_cases (a b : Int) : (a < b ∧ sg a b = -1) ∨ (a = b ∧ sg a b = 0) ∨ (b < a ∧ sg a b = 1) := by
  unfold sg
  split
  · left; omega
  · split
    · right; right; omega
    · right; left; omega
theorem cmpK_cases (a b : Key) : (a.k < b.k ∧ cmpK a b = -1) ∨ (b.k < a.k ∧ cmpK a b = 1) ∨ (a.k = b.k ∧ ((a.n < b.n ∧ cmpK a b = -1) ∨ (b.n < a.n ∧ cmpK a b = 1) ∨ (a.n = b.n ∧ cmpK a b = sgT a.t b.t))) := by
  unfold cmpK
  rcases sg_cases a.k b.k with ⟨h, e⟩ | ⟨h, e⟩ | ⟨h, e⟩
  · left; rw [e]; exact ⟨h, rfl⟩
  · right; right
    rw [e]
    refine ⟨h, ?_⟩
    rcases sg_cases a.n b.n with ⟨h, e⟩ | ⟨h, e⟩ | ⟨h, e⟩
    · left; rw [e]; exact ⟨h, rfl⟩
    · right; right; rw [e]; exact ⟨h, rfl⟩
    · right; left; rw [e]; exact ⟨h, rfl⟩
  · right; left; rw [e]; exact ⟨h, rfl⟩
theorem cmpK_anti (a b : Key) : cmpK a b = - cmpK b a := by
  have := sgT_anti a.t b.t
  have h1 := cmpK_cases a b
  have h2 := cmpK_cases b a
  omega
theorem cmpK_range (a b : Key) : -1 ≤ cmpK a b ∧ cmpK a b ≤ 1 := by
  have := sgT_range a.t b.t
  have := cmpK_cases a b
  omega
theorem cmpK_zero (a b : Key) : (cmpK a b == 0) = eqK a b := by
  rw [Bool.eq_iff_iff]
  unfold eqK
  simp only [beq_iff_eq, Bool.and_eq_true]
  have h1 := cmpK_cases a b
  have h2 := sgT_zero a.t b.t
  constructor
  · intro h
    rcases h1 with ⟨_, e⟩ | ⟨_, e⟩ | ⟨e0, ⟨_, e⟩ | ⟨_, e⟩ | ⟨e1, e⟩⟩
    · omega
    · omega
    · omega
    · omega
    · exact ⟨e0, e1, h2.1 (by omega)⟩
  · rintro ⟨e0, e1, e2⟩
    have := h2.2 e2
    omega
theorem cmpK_self (a : Key) : cmpK a a = 0 := by have := cmpK_anti a a; omega
theorem cmpK_lt_trans (a b c : Key) (h : cmpK a b < 0) (k : cmpK b c < 0) : cmpK a c < 0 := by
  have h1 := cmpK_cases a b
  have h2 := cmpK_cases b c
  have h3 := cmpK_cases a c
  have ht := sgT_trans a.t b.t c.t
  omega
theorem sgT_congr (a b c : ByteArray) (h : sgT a b = 0) : sgT a c = sgT b c ∧ sgT c a = sgT c b := by
  have := (sgT_zero a b).1 h
  unfold sgT
  rw [this]
  exact ⟨rfl, rfl⟩
theorem cmpK_congr (a b c : Key) (h : cmpK a b = 0) : cmpK a c = cmpK b c := by
  have h1 := cmpK_cases a b
  have h2 := cmpK_cases a c
  have h3 := cmpK_cases b c
  have ht := sgT_congr a.t b.t c.t
  rcases h1 with ⟨_, e⟩ | ⟨_, e⟩ | ⟨e0, ⟨_, e⟩ | ⟨_, e⟩ | ⟨e1, e⟩⟩
  · omega
  · omega
  · omega
  · omega
  · have := ht (by omega)
    omega
theorem cmpK_congr' (a b c : Key) (h : cmpK b c = 0) : cmpK a b = cmpK a c := by
  have h1 := cmpK_congr b c a h
  have h2 := cmpK_anti a b
  have h3 := cmpK_anti a c
  omega
/-- The law's last line. -/
theorem order_law (a b c : Key) : (cmpK a b > 0 ∨ cmpK b c > 0 ∨ cmpK a c ≤ 0) ∧ (cmpK a b ≥ 0 ∨ cmpK b c > 0 ∨ cmpK a c < 0) ∧ (a.k ≥ b.k ∨ cmpK a b < 0) := by
  have t1 := cmpK_lt_trans a b c
  have t2 := cmpK_congr a b c
  have t3 := cmpK_congr' a b c
  have h1 := cmpK_cases a b
  refine ⟨?_, ?_, ?_⟩ <;> omega

/-! ### order.Compare -/
theorem or_three (a b c : Int) : cmp_Or_int.f 5 [a, b, c] = some (if a ≠ 0 then a else if b ≠ 0 then b else c) := by
  by_cases ha : a = 0 <;> by_cases hb : b = 0 <;> by_cases hc : c = 0 <;> simp [cmp_Or_int.f, cmp_Or_int.l0, YtfmholpbpghojaaDoorW.PrintWords.rd, wrap64, ha, hb, hc]
theorem cmp_int (a b : Int) : cmp_Compare_int.f a b = some (sg a b) := by
  unfold cmp_Compare_int.f cmp_isNaN_int.f sg
  simp
  split
  · rfl
  · split <;> rfl
theorem cmp_int64 (a b : Int) : cmp_Compare_int64.f a b = some (sg a b) := by
  unfold cmp_Compare_int64.f cmp_isNaN_int64.f sg
  simp
  split
  · rfl
  · split <;> rfl
theorem cmp_str (a b : ByteArray) : cmp_Compare_string.f a b = some (sgT a b) := by
  unfold cmp_Compare_string.f sgT
  split
  · rfl
  · split <;> rfl
theorem compare_f (a b : Key) : order_Compare.f 5 a.k a.n a.t b.k b.n b.t = some (cmpK a b) := by
  unfold order_Compare.f
  rw [cmp_int, cmp_int64, cmp_str]
  simp only [Option.bind_some, or_three]
  rfl
def Key.v (a : Key) : Value := .agg #[.int .i64 a.k, .int .i64 a.n, .string a.t]
theorem compare_any (a b : Key) (w : World) : Calls Tryd.prog 24 #[.agg #[.int .i64 a.k, .int .i64 a.n, .string a.t], .agg #[.int .i64 b.k, .int .i64 b.n, .string b.t]] w fun e w' =>
    e = .returned (.int .i64 (cmpK a b)) ∧ Below w.heap.size w w' :=
  order_Compare.calls 5 a.k a.n a.t b.k b.n b.t (cmpK a b) w (compare_f a b)

/-! ### the laws' helpers -/
def okDec (l : List UInt8) (sc want : Int) : Bool := (decL l sc).2 == 0 && (decL l sc).1 == want
def noDec (l : List UInt8) (sc : Int) : Bool := (decL l sc).2 == 70 && (decL l sc).1 == 0
theorem decimal_any (l : List UInt8) (sc : Int) (hl : l.length ≤ 140737488355328) (w : World) (hL : LayN w) :
    Calls Tryd.prog 23 #[.string (bs l), .int .i64 sc] w fun e w' => e = .returned (.tuple #[.int .i64 (decL l sc).1, .int .i64 (decL l sc).2]) ∧ Below w.heap.size w w' := by
  by_cases h : sc < 0 ∨ 9 < sc
  · exact decimal_arg l sc h w
  · exact decimal_good l sc (by omega) (by omega) hl w hL
theorem okDec_any (l : List UInt8) (sc want : Int) (hl : l.length ≤ 140737488355328) (w : World) (hL : LayN w) :
    Calls Tryd.prog 25 #[.string (bs l), .int .i64 sc, .int .i64 want] w fun e w' => e = .returned (.bool (okDec l sc want)) ∧ Below w.heap.size w w' := by
  have HD := Lib.hid (decimal_any l sc hl w hL)
  have HO := Lib.hid (show okDec l sc want = ((decL l sc).2 == 0 && (decL l sc).1 == want) from rfl)
  clear hL
  generalize (decL l sc).1 = v at *
  generalize (decL l sc).2 = er at *
  by_cases h1 : er = 0
  · subst h1
    go_enter Tryd.func25, Tryd.ntmps25
    go_wp2_with (go_at_call 23; refine HD.out.mono ?_; rintro e w' ⟨rfl, hb⟩)
    go_ret
    exact ⟨by rw [HO.out]; rfl, hb⟩
  · have h2 : (er == 0) = false := by simpa using h1
    go_enter Tryd.func25, Tryd.ntmps25
    go_wp2_with (go_at_call 23; refine HD.out.mono ?_; rintro e w' ⟨rfl, hb⟩)
    go_ret
    exact ⟨by rw [HO.out, h2]; rfl, hb⟩
theorem noDec_any (l : List UInt8) (sc : Int) (hl : l.length ≤ 140737488355328) (w : World) (hL : LayN w) :
    Calls Tryd.prog 26 #[.string (bs l), .int .i64 sc] w fun e w' => e = .returned (.bool (noDec l sc)) ∧ Below w.heap.size w w' := by
  have HD := Lib.hid (decimal_any l sc hl w hL)
  have HO := Lib.hid (show noDec l sc = ((decL l sc).2 == 70 && (decL l sc).1 == 0) from rfl)
  clear hL
  generalize (decL l sc).1 = v at *
  generalize (decL l sc).2 = er at *
  by_cases h1 : er = 70
  · subst h1
    go_enter Tryd.func26, Tryd.ntmps26
    go_wp2_with (go_at_call 23; refine HD.out.mono ?_; rintro e w' ⟨rfl, hb⟩)
    go_ret
    exact ⟨by rw [HO.out]; rfl, hb⟩
  · have h2 : (er == 70) = false := by simpa using h1
    go_enter Tryd.func26, Tryd.ntmps26
    go_wp2_with (go_at_call 23; refine HD.out.mono ?_; rintro e w' ⟨rfl, hb⟩)
    go_ret
    exact ⟨by rw [HO.out, h2]; rfl, hb⟩
theorem okText_any (n sc : Int) (want : ByteArray) (h0 : 0 ≤ sc) (h9 : sc ≤ 9) (hn0 : -9223372036854775808 ≤ n) (hn1 : n ≤ 9223372036854775807) (w : World) (hL : LayN w) :
    Calls Tryd.prog 27 #[.int .i64 n, .int .i64 sc, .string want] w fun e w' => e = .returned (.bool ((bs (textL n sc)).toList == want.toList)) ∧ Below w.heap.size w w' := by
  have HD := Lib.hid (text_good n sc h0 h9 hn0 hn1 w hL)
  clear hL
  generalize textL n sc = v at *
  go_enter Tryd.func27, Tryd.ntmps27
  go_wp2_with (go_at_call 21; refine HD.out.mono ?_; rintro e w' ⟨rfl, hb⟩)
  go_ret
  exact ⟨rfl, hb⟩
end Go.Proofs.YtfmholpbpghojaaDoor
