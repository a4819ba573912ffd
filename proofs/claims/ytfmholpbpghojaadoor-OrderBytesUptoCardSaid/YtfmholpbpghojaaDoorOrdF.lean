import Derived.Test.YtfmholpbpghojaaDoorOrdE
/-! Order, plain: bytes go as keys do; Keys reads them again. -/
namespace Go.Proofs.YtfmholpbpghojaaDoor
set_option linter.unusedVariables false
set_option linter.unusedSimpArgs false
open Go.RowKit Go.Lib
open Go.Proofs.YtfmholpbpghojaaDoor.ROrderBytes
open Go.Proofs.YtfmholpbpghojaaDoorW.PrintWords

/-! ### the order of bytes -/
def cmpB : List UInt8 → List UInt8 → Int
  | [], [] => 0
  | [], _ :: _ => -1
  | _ :: _, [] => 1
  | a :: r, b :: s => if a.toNat < b.toNat then -1 else if b.toNat < a.toNat then 1 else cmpB r s
theorem cmpB_self : ∀ a, cmpB a a = 0
  | [] => rfl
  | c :: a => by simp [cmpB, cmpB_self a]
theorem cmpB_zero : ∀ a b, cmpB a b = 0 → a = b
  | [], [], _ => rfl
  | [], _ :: _, h => by simp [cmpB] at h
  | _ :: _, [], h => by simp [cmpB] at h
  | a :: r, b :: s, h => by
    unfold cmpB at h
    split at h
    · omega
    · split at h
      · omega
      · have e : a = b := UInt8.toNat_inj.1 (by omega)
        rw [e, cmpB_zero r s h]
theorem cmpB_same (c : UInt8) (r s : List UInt8) : cmpB (c :: r) (c :: s) = cmpB r s := by simp [cmpB]
theorem cmpB_lt (a b : UInt8) (r s : List UInt8) (h : a.toNat < b.toNat) : cmpB (a :: r) (b :: s) = -1 := by simp [cmpB, h]
theorem cmpB_gt (a b : UInt8) (r s : List UInt8) (h : b.toNat < a.toNat) : cmpB (a :: r) (b :: s) = 1 := by
  unfold cmpB; rw [if_neg (by omega), if_pos h]
def sgL (a b : List UInt8) : Int := if Op.bytesLess a b then -1 else if a == b then 0 else 1
theorem sgL_cmpB : ∀ a b, sgL a b = cmpB a b
  | [], [] => rfl
  | [], _ :: _ => by simp [sgL, cmpB, Op.bytesLess]
  | _ :: _, [] => by simp [sgL, cmpB, Op.bytesLess]
  | a :: r, b :: s => by
    have ih := sgL_cmpB r s
    rcases Nat.lt_trichotomy a.toNat b.toNat with h | h | h
    · rw [cmpB_lt a b r s h]
      have : a < b := UInt8.lt_iff_toNat_lt.2 h
      simp [sgL, Op.bytesLess, this]
    · obtain rfl : a = b := UInt8.toNat_inj.1 h
      rw [cmpB_same, ← ih]
      simp [sgL, Op.bytesLess]
    · rw [cmpB_gt a b r s h]
      have h1 : ¬ a < b := by rw [UInt8.lt_iff_toNat_lt]; omega
      have h2 : a ≠ b := by rintro rfl; omega
      simp [sgL, Op.bytesLess, h1, h2]
theorem sgT_bs (a b : List UInt8) : sgT (bs a) (bs b) = cmpB a b := by
  rw [← sgL_cmpB]
  unfold sgT sgL
  rw [ByteArray.toList_eq, ByteArray.toList_eq]
  rfl
theorem sgT_data (a b : ByteArray) : sgT a b = cmpB a.data.toList b.data.toList := sgT_bs _ _
/-! ### numbers -/
theorem be_mod : ∀ (n m u : Nat), n ≤ m → be n (u % 256 ^ m) = be n u
  | 0, _, _, _ => rfl
  | n + 1, m, u, h => by
    unfold be
    rw [be_mod n m u (by omega)]
    congr 2
    obtain ⟨d, rfl⟩ : ∃ d, m = n + (d + 1) := ⟨m - n - 1, by omega⟩
    rw [Nat.pow_add, Nat.mod_mul_right_div_self]
    exact Nat.mod_mod_of_dvd _ (by rw [Nat.pow_succ]; exact Nat.dvd_mul_left _ _)
theorem cmp_be : ∀ (n u v : Nat) (r s : List UInt8), u < 256 ^ n → v < 256 ^ n → cmpB (be n u ++ r) (be n v ++ s) = if u < v then -1 else if v < u then 1 else cmpB r s
  | 0, u, v, r, s, hu, hv => by
    have h1 : u = 0 := by simp at hu; omega
    have h2 : v = 0 := by simp at hv; omega
    subst h1 h2
    simp [be]
  | n + 1, u, v, r, s, hu, hv => by
    have hq : 0 < 256 ^ n := Nat.pow_pos (by omega)
    have hu' : u / 256 ^ n < 256 := by rw [Nat.div_lt_iff_lt_mul hq]; rw [Nat.pow_succ] at hu; rw [Nat.mul_comm]; exact hu
    have hv' : v / 256 ^ n < 256 := by rw [Nat.div_lt_iff_lt_mul hq]; rw [Nat.pow_succ] at hv; rw [Nat.mul_comm]; exact hv
    have e1 : (UInt8.ofNat (u / 256 ^ n % 256)).toNat = u / 256 ^ n := by rw [Nat.mod_eq_of_lt hu']; exact UInt8.toNat_ofNat_of_lt' hu'
    have e2 : (UInt8.ofNat (v / 256 ^ n % 256)).toNat = v / 256 ^ n := by rw [Nat.mod_eq_of_lt hv']; exact UInt8.toNat_ofNat_of_lt' hv'
    unfold be
    rw [List.cons_append, List.cons_append]
    rcases Nat.lt_trichotomy (u / 256 ^ n) (v / 256 ^ n) with h | h | h
    · rw [cmpB_lt _ _ _ _ (by rw [e1, e2]; exact h), if_pos]
      apply Nat.lt_of_not_le
      intro hle
      have := Nat.div_le_div_right (c := 256 ^ n) hle
      omega
    · have : UInt8.ofNat (u / 256 ^ n % 256) = UInt8.ofNat (v / 256 ^ n % 256) := by rw [h]
      rw [this, cmpB_same]
      rw [← be_mod n n u (Nat.le_refl _), ← be_mod n n v (Nat.le_refl _)]
      rw [cmp_be n _ _ r s (Nat.mod_lt _ hq) (Nat.mod_lt _ hq)]
      have d1 := Nat.div_add_mod u (256 ^ n)
      have d2 := Nat.div_add_mod v (256 ^ n)
      rw [h] at d1
      have a1 : (u % 256 ^ n < v % 256 ^ n) ↔ u < v := by omega
      have a2 : (v % 256 ^ n < u % 256 ^ n) ↔ v < u := by omega
      simp only [a1, a2]
    · rw [cmpB_gt _ _ _ _ (by rw [e1, e2]; exact h)]
      have : v < u := by
        apply Nat.lt_of_not_le
        intro hle
        have := Nat.div_le_div_right (c := 256 ^ n) hle
        omega
      rw [if_neg (by omega), if_pos this]
/-! ### texts -/
theorem cmp_esc : ∀ (a b r s : List UInt8), cmpB (esc a ++ 0 :: 1 :: r) (esc b ++ 0 :: 1 :: s) = if cmpB a b ≠ 0 then cmpB a b else cmpB r s
  | [], [], r, s => by simp [esc, cmpB]
  | [], d :: b, r, s => by
    have e : cmpB [] (d :: b) = -1 := rfl
    rw [e, if_pos (by omega)]
    by_cases hd : d = 0
    · subst hd
      simp [esc, cmpB]
    · have : 0 < d.toNat := by have := mt (u8_zero d).1 hd; omega
      simp only [esc, if_neg hd, List.nil_append, List.cons_append]
      exact cmpB_lt _ _ _ _ (by simpa using this)
  | c :: a, [], r, s => by
    have e : cmpB (c :: a) [] = 1 := rfl
    rw [e, if_pos (by omega)]
    by_cases hc : c = 0
    · subst hc
      simp [esc, cmpB]
    · have : 0 < c.toNat := by have := mt (u8_zero c).1 hc; omega
      simp only [esc, if_neg hc, List.nil_append, List.cons_append]
      exact cmpB_gt _ _ _ _ (by simpa using this)
  | c :: a, d :: b, r, s => by
    have ih := cmp_esc a b r s
    rcases Nat.lt_trichotomy c.toNat d.toNat with h | h | h
    · rw [cmpB_lt c d a b h, if_pos (by omega)]
      have hd : d ≠ 0 := by rintro rfl; simp at h
      by_cases hc : c = 0
      · subst hc
        simp only [esc, if_pos, if_neg hd, List.cons_append]
        exact cmpB_lt _ _ _ _ (by simpa using h)
      · simp only [esc, if_neg hc, if_neg hd, List.cons_append]
        exact cmpB_lt _ _ _ _ h
    · obtain rfl : c = d := UInt8.toNat_inj.1 h
      rw [cmpB_same]
      rw [← ih]
      by_cases hc : c = 0
      · subst hc
        simp only [esc, if_pos, List.cons_append, cmpB_same]
      · simp only [esc, if_neg hc, List.cons_append, cmpB_same]
    · rw [cmpB_gt c d a b h, if_pos (by omega)]
      have hc : c ≠ 0 := by rintro rfl; simp at h
      by_cases hd : d = 0
      · subst hd
        simp only [esc, if_pos, if_neg hc, List.cons_append]
        exact cmpB_gt _ _ _ _ (by simpa using h)
      · simp only [esc, if_neg hc, if_neg hd, List.cons_append]
        exact cmpB_gt _ _ _ _ h
/-! ### keys -/
def kk (x : S49) : Key := ⟨x.f0, x.f1, x.f2⟩
/-- A number of a key's: an int64. -/
def inR (x : S49) : Prop := -9223372036854775808 ≤ x.f1 ∧ x.f1 ≤ 9223372036854775807
theorem uOf_eq (n : Int) (h0 : -9223372036854775808 ≤ n) (h1 : n ≤ 9223372036854775807) : uOf n = (n + 9223372036854775808).toNat := by
  unfold uOf IntKind.wrap
  simp [IntKind.signed, IntKind.bits]
  omega
theorem right_cases (x : S49) (h : rightB x = true) : (x.f0 = 0 ∧ x.f1 = 0 ∧ x.f2 = ⟨#[]⟩) ∨ (x.f0 = 1 ∧ x.f2 = ⟨#[]⟩) ∨ (x.f0 = 2 ∧ x.f1 = 0) := by
  have he : ∀ s : ByteArray, s.toList = [] → s = ⟨#[]⟩ := fun s hs => by
    rw [ByteArray.toList_eq] at hs
    apply ByteArray.ext
    simpa using hs
  unfold rightB at h
  split at h
  · rename_i h0
    simp at h
    exact .inl ⟨h0, h.1, he _ h.2⟩
  · split at h
    · rename_i h0
      simp at h
      exact .inr (.inl ⟨h0, he _ h⟩)
    · simp at h
      exact .inr (.inr h)
theorem enc0 (x : S49) (h : x.f0 = 0) : encK x = [0] := by unfold encK; rw [if_neg (by omega), if_neg (by omega), h]; rfl
theorem enc1 (x : S49) (h : x.f0 = 1) : encK x = 1 :: be 8 (uOf x.f1) := by unfold encK; rw [if_pos h, h]; rfl
theorem enc2 (x : S49) (h : x.f0 = 2) : encK x = 2 :: (esc x.f2.data.toList ++ [0, 1]) := by unfold encK; rw [if_neg (by omega), if_pos h, h]; rfl
theorem cmpK_kk (a b : S49) : (a.f0 < b.f0 ∧ cmpK (kk a) (kk b) = -1) ∨ (b.f0 < a.f0 ∧ cmpK (kk a) (kk b) = 1) ∨ (a.f0 = b.f0 ∧ ((a.f1 < b.f1 ∧ cmpK (kk a) (kk b) = -1) ∨ (b.f1 < a.f1 ∧ cmpK (kk a) (kk b) = 1) ∨ (a.f1 = b.f1 ∧ cmpK (kk a) (kk b) = sgT a.f2 b.f2))) := cmpK_cases (kk a) (kk b)
theorem cmp_enc (x y : S49) (hx : rightB x = true) (hy : rightB y = true) (ix : inR x) (iy : inR y) (r s : List UInt8) :
    cmpB (encK x ++ r) (encK y ++ s) = if cmpK (kk x) (kk y) ≠ 0 then cmpK (kk x) (kk y) else cmpB r s := by
  have hc : ∀ a b : S49, a.f0 < b.f0 → cmpK (kk a) (kk b) = -1 := fun a b h => by have := cmpK_kk a b; omega
  have hc' : ∀ a b : S49, b.f0 < a.f0 → cmpK (kk a) (kk b) = 1 := fun a b h => by have := cmpK_kk a b; omega
  rcases right_cases x hx with ⟨x0, x1, x2⟩ | ⟨x0, x2⟩ | ⟨x0, x1⟩ <;> rcases right_cases y hy with ⟨y0, y1, y2⟩ | ⟨y0, y2⟩ | ⟨y0, y1⟩
  · have e : cmpK (kk x) (kk y) = 0 := by
      have : kk x = kk y := by unfold kk; rw [x0, x1, x2, y0, y1, y2]
      rw [this, cmpK_self]
    rw [e, enc0 x x0, enc0 y y0, if_neg (by omega)]
    exact cmpB_same _ _ _
  · rw [hc x y (by omega), enc0 x x0, enc1 y y0, if_pos (by omega)]
    exact cmpB_lt _ _ _ _ (by decide)
  · rw [hc x y (by omega), enc0 x x0, enc2 y y0, if_pos (by omega)]
    exact cmpB_lt _ _ _ _ (by decide)
  · rw [hc' x y (by omega), enc1 x x0, enc0 y y0, if_pos (by omega)]
    exact cmpB_gt _ _ _ _ (by decide)
  · rw [enc1 x x0, enc1 y y0, List.cons_append, List.cons_append, cmpB_same]
    have hu := uOf_eq x.f1 ix.1 ix.2
    have hv := uOf_eq y.f1 iy.1 iy.2
    have := ix.1
    have := ix.2
    have := iy.1
    have := iy.2
    rw [cmp_be 8 _ _ r s (by rw [hu]; omega) (by rw [hv]; omega), hu, hv]
    have h := cmpK_kk x y
    have ht : sgT x.f2 y.f2 = 0 := by rw [x2, y2]; exact (sgT_zero _ _).2 rfl
    rcases h with h | h | ⟨-, h | h | h⟩
    · omega
    · omega
    · rw [h.2, if_pos (by omega), if_pos (by omega)]
    · rw [h.2, if_neg (by omega), if_pos (by omega), if_pos (by omega)]
    · rw [h.2, ht, if_neg (by omega), if_neg (by omega), if_neg (by omega)]
  · rw [hc x y (by omega), enc1 x x0, enc2 y y0, if_pos (by omega)]
    exact cmpB_lt _ _ _ _ (by decide)
  · rw [hc' x y (by omega), enc2 x x0, enc0 y y0, if_pos (by omega)]
    exact cmpB_gt _ _ _ _ (by decide)
  · rw [hc' x y (by omega), enc2 x x0, enc1 y y0, if_pos (by omega)]
    exact cmpB_gt _ _ _ _ (by decide)
  · rw [enc2 x x0, enc2 y y0]
    have h := cmp_esc x.f2.data.toList y.f2.data.toList r s
    have e : cmpK (kk x) (kk y) = cmpB x.f2.data.toList y.f2.data.toList := by
      rw [← sgT_data]
      have := cmpK_kk x y
      omega
    rw [e, ← h]
    simp [cmpB_same]
/-! ### rows of keys -/
def cmpR : List S49 → List S49 → Int
  | [], [] => 0
  | [], _ :: _ => -1
  | _ :: _, [] => 1
  | a :: r, b :: s => if cmpK (kk a) (kk b) ≠ 0 then cmpK (kk a) (kk b) else cmpR r s
def encL (l : List S49) : List UInt8 := l.flatMap encK
theorem encK_ne (x : S49) : ∃ c r, encK x = c :: r := ⟨_, _, rfl⟩
def good (l : List S49) : Prop := ∀ x ∈ l, rightB x = true ∧ inR x
theorem cmp_encL : ∀ (a b : List S49), good a → good b → cmpB (encL a) (encL b) = cmpR a b
  | [], [], _, _ => rfl
  | [], y :: b, _, _ => by obtain ⟨c, r, e⟩ := encK_ne y; simp [encL, e, cmpB, cmpR]
  | x :: a, [], _, _ => by obtain ⟨c, r, e⟩ := encK_ne x; simp [encL, e, cmpB, cmpR]
  | x :: a, y :: b, ha, hb => by
    have h := cmp_enc x y (ha x (by simp)).1 (hb y (by simp)).1 (ha x (by simp)).2 (hb y (by simp)).2 (encL a) (encL b)
    rw [cmp_encL a b (fun z hz => ha z (by simp [hz])) (fun z hz => hb z (by simp [hz]))] at h
    exact h
theorem cmp_encL' : ∀ (a b : List S49) (r s : List UInt8), good a → good b → a.length = b.length → cmpB (encL a ++ r) (encL b ++ s) = if cmpR a b ≠ 0 then cmpR a b else cmpB r s
  | [], [], r, s, _, _, _ => by simp [encL, cmpR]
  | [], y :: b, _, _, _, _, h => by simp at h
  | x :: a, [], _, _, _, _, h => by simp at h
  | x :: a, y :: b, r, s, ha, hb, hl => by
    have h := cmp_enc x y (ha x (by simp)).1 (hb y (by simp)).1 (ha x (by simp)).2 (hb y (by simp)).2 (encL a ++ r) (encL b ++ s)
    rw [cmp_encL' a b r s (fun z hz => ha z (by simp [hz])) (fun z hz => hb z (by simp [hz])) (by simpa using hl)] at h
    have e1 : encL (x :: a) ++ r = encK x ++ (encL a ++ r) := by simp [encL]
    have e2 : encL (y :: b) ++ s = encK y ++ (encL b ++ s) := by simp [encL]
    rw [e1, e2, h]
    simp only [cmpR]
    split <;> rfl
/-- Of as many keys none begin another one's bytes. -/
theorem begins_iff (a b : List S49) (ha : good a) (hb : good b) (hl : a.length = b.length) : (encL a <+: encL b) ↔ cmpR a b = 0 := by
  constructor
  · rintro ⟨z, hz⟩
    have h := cmp_encL' a b z [] ha hb hl
    rw [hz, List.append_nil, cmpB_self] at h
    by_cases h0 : cmpR a b = 0
    · exact h0
    · rw [if_pos h0] at h
      exact h.symm
  · intro h
    have := cmpB_zero _ _ ((cmp_encL a b ha hb).trans h)
    rw [this]
    exact List.prefix_refl _
theorem cmpR_self : ∀ a, cmpR a a = 0
  | [] => rfl
  | x :: a => by simp [cmpR, cmpK_self, cmpR_self a]
/-! ### Keys reads them again -/
theorem text_back : ∀ (t : List UInt8) (k : Nat) (pre rest : List UInt8), t.length + 1 ≤ k → pre.length + t.length < 140737488355328 →
    textL' k (ofB pre) (esc t ++ 0 :: 1 :: rest) true = some (bs (pre ++ t), rest, true)
  | [], k, pre, rest, hk, hl => by
    obtain ⟨k, rfl⟩ : ∃ i, k = i + 1 := ⟨k - 1, by simp at hk; omega⟩
    unfold textL'
    rw [if_pos rfl, if_pos (by rw [ofB_length]; simpa using hl)]
    simp [esc, nx, strOf_ofB]
  | c :: t, k, pre, rest, hk, hl => by
    obtain ⟨k, rfl⟩ : ∃ i, k = i + 1 := ⟨k - 1, by simp at hk; omega⟩
    unfold textL'
    rw [if_pos rfl, if_pos (by rw [ofB_length]; simp at hl; omega)]
    have ih := text_back t k (pre ++ [c]) rest (by simp at hk; omega) (by simp at hl ⊢; omega)
    have e : ofB pre ++ [(c.toNat : Int)] = ofB (pre ++ [c]) := by rw [ofB_append]; simp [ofB]
    by_cases hc : c = 0
    · subst hc
      have e' : ofB pre ++ [0] = ofB (pre ++ [0]) := e
      simp only [esc, if_pos, List.cons_append, nx]
      rw [if_neg (by decide), e', ih]
      simp
    · simp only [esc, if_neg hc, List.cons_append, nx]
      rw [e, ih]
      simp
theorem wrap_u64 (n : Nat) (h : n < 18446744073709551616) : IntKind.u64.wrap (n : Int) = (n : Int) := by
  unfold IntKind.wrap
  simp [IntKind.signed, IntKind.bits]
  omega
theorem or_low (u c : Nat) (hu : u < 72057594037927936) (hc : c < 256) : bits .or .u64 ((u * 256 : Nat) : Int) (c : Int) = ((u * 256 + c : Nat) : Int) := by
  have h2 : u * 256 + c < 18446744073709551616 := by omega
  have h4 : u * 256 < 2 ^ 64 := Nat.lt_of_le_of_lt (Nat.le_add_right _ c) h2
  have h5 : c < 2 ^ 64 := Nat.lt_of_lt_of_le hc (by decide)
  have h1 : u * 256 + c = u * 256 ||| c := by
    have := Nat.shiftLeft_add_eq_or_of_lt (i := 8) (b := c) (show c < 2 ^ 8 by omega) u
    rw [Nat.shiftLeft_eq, show (2 : Nat) ^ 8 = 256 from rfl] at this
    exact this
  have h3 : ((BitVec.ofInt 64 ((u * 256 : Nat) : Int)) ||| (BitVec.ofInt 64 (c : Int))).toNat = u * 256 + c := by
    rw [BitVec.ofInt_natCast, BitVec.ofInt_natCast, BitVec.toNat_or, BitVec.toNat_ofNat, BitVec.toNat_ofNat, Nat.mod_eq_of_lt h4, Nat.mod_eq_of_lt h5, ← h1]
  show IntKind.u64.wrap (((BitVec.ofInt 64 ((u * 256 : Nat) : Int)) ||| (BitVec.ofInt 64 (c : Int))).toNat : Int) = _
  rw [h3]
  exact wrap_u64 _ h2
theorem num_back : ∀ (n u acc : Nat) (rest : List UInt8), u < 256 ^ n → (acc + 1) * 256 ^ n ≤ 18446744073709551616 → numL n (acc : Int) (be n u ++ rest) true = (((acc * 256 ^ n + u : Nat) : Int), rest, true)
  | 0, u, acc, rest, hu, ha => by
    have : u = 0 := by simp at hu; omega
    subst this
    simp [numL, be]
  | n + 1, u, acc, rest, hu, ha => by
    have hq : 0 < 256 ^ n := Nat.pow_pos (by omega)
    have hu' : u / 256 ^ n < 256 := by rw [Nat.div_lt_iff_lt_mul hq]; rw [Nat.pow_succ] at hu; rw [Nat.mul_comm]; exact hu
    have e1 : (UInt8.ofNat (u / 256 ^ n % 256)).toNat = u / 256 ^ n := by rw [Nat.mod_eq_of_lt hu']; exact UInt8.toNat_ofNat_of_lt' hu'
    have hacc : (acc + 1) * 256 ≤ 18446744073709551616 := by
      refine Nat.le_trans ?_ ha
      rw [Nat.pow_succ, Nat.mul_comm (256 ^ n) 256, ← Nat.mul_assoc]
      exact Nat.le_mul_of_pos_right _ hq
    have hst : stepN acc (UInt8.ofNat (u / 256 ^ n % 256)) = ((acc * 256 + u / 256 ^ n : Nat) : Int) := by
      unfold stepN
      rw [e1]
      have w1 : IntKind.u64.wrap ((acc : Int) * 256) = ((acc * 256 : Nat) : Int) := wrap_u64 (acc * 256) (by omega)
      have w2 : IntKind.u64.wrap ((u / 256 ^ n : Nat) : Int) = ((u / 256 ^ n : Nat) : Int) := wrap_u64 _ (by omega)
      rw [w1, w2]
      exact or_low _ _ (by omega) hu'
    unfold be numL
    simp only [List.cons_append, nx]
    rw [hst, ← be_mod n n u (Nat.le_refl _), num_back n (u % 256 ^ n) (acc * 256 + u / 256 ^ n) rest (Nat.mod_lt _ hq) ?_]
    · have d1 := Nat.div_add_mod u (256 ^ n)
      congr 2
      rw [Nat.pow_succ, Nat.add_mul, Nat.mul_comm (256 ^ n) 256, ← Nat.mul_assoc, Nat.mul_comm (u / 256 ^ n)]
      omega
    · refine Nat.le_trans ?_ ha
      rw [Nat.pow_succ, Nat.mul_comm (256 ^ n) 256, ← Nat.mul_assoc]
      exact Nat.mul_le_mul_right _ (by omega)
theorem keys_back : ∀ (l : List S49) (k : Nat) (out : List S49), good l → szL l + 1 ≤ k → out.length + szL l < 4398046511103 → keysL k out (encL l) true = some (out ++ l, 0)
  | [], k, out, hg, hk, hl => by
    obtain ⟨k, rfl⟩ : ∃ i, k = i + 1 := ⟨k - 1, by simp [szL] at hk; omega⟩
    unfold keysL
    rw [if_pos (show (encL []).isEmpty = true from rfl)]
    simp
  | x :: l, k, out, hg, hk, hl => by
    have hsz : szL (x :: l) = szK x + szL l := by simp [szL]
    rw [hsz] at hk hl
    have hk1 : szK x = 12 + 2 * x.f2.size := rfl
    obtain ⟨k, rfl⟩ : ∃ i, k = i + 1 := ⟨k - 1, by omega⟩
    have ih := keys_back l k (out ++ [x]) (fun z hz => hg z (by simp [hz])) (by omega) (by simp; omega)
    have hx := (hg x (by simp)).1
    have ix := (hg x (by simp)).2
    have e0 : encL (x :: l) = encK x ++ encL l := by simp [encL]
    rw [e0]
    obtain ⟨xk, xn, xt⟩ := x
    rcases right_cases _ hx with ⟨x0, x1, x2⟩ | ⟨x0, x2⟩ | ⟨x0, x1⟩
    · rw [enc0 _ x0]
      dsimp only at x0 x1 x2
      subst x0 x1 x2
      unfold keysL
      rw [if_neg (by simp), if_pos (by omega)]
      simp only [List.cons_append, List.nil_append, nx]
      rw [if_pos trivial, if_pos trivial, ih]
      simp
    · rw [enc1 _ x0]
      dsimp only at x0 x2 ix
      subst x0 x2
      have hu := uOf_eq xn ix.1 ix.2
      have hi1 := ix.1
      have hi2 := ix.2
      simp only [inR] at hi1 hi2
      have hb := num_back 8 (uOf xn) 0 (encL l) (by rw [hu]; omega) (by omega)
      simp only [Nat.zero_mul, Nat.zero_add] at hb
      have hv : wrap64 (numV (be 8 (uOf xn) ++ encL l) true) = xn := by
        unfold numV
        have := congrArg (fun t => t.1) hb
        simp only at this
        rw [show ((0 : Nat) : Int) = 0 from rfl] at this
        rw [this, hu]
        unfold IntKind.wrap wrap64
        simp [IntKind.signed, IntKind.bits]
        omega
      unfold keysL
      rw [if_neg (by simp), if_pos (by omega)]
      simp only [List.cons_append, nx]
      rw [if_neg (by decide), if_pos trivial, hv]
      have hb2 : (numL 8 0 (be 8 (uOf xn) ++ encL l) true).2.2 = true := congrArg (fun t => t.2.2) hb
      have hb3 : (numL 8 0 (be 8 (uOf xn) ++ encL l) true).2.1 = encL l := congrArg (fun t => t.2.1) hb
      refine (if_pos hb2).trans ?_
      rw [hb3, ih]
      simp
    · rw [enc2 _ x0]
      dsimp only at x0 x1
      subst x0 x1
      have hs : xt.data.toList.length = xt.size := (size_eq xt).symm
      have ht := text_back xt.data.toList k [] (encL l) (by dsimp only at hk1; omega) (by simp; dsimp only at hk1; omega)
      unfold keysL
      rw [if_neg (by simp), if_pos (by omega)]
      simp only [List.cons_append, List.append_assoc, List.nil_append, nx]
      rw [if_neg (by decide), if_neg (by decide), if_pos trivial]
      rw [show ([] : List Int) = ofB [] from rfl, ht]
      simp only [Option.bind_some, List.nil_append, bs_of]
      rw [if_pos trivial, ih]
      simp
end Go.Proofs.YtfmholpbpghojaaDoor
