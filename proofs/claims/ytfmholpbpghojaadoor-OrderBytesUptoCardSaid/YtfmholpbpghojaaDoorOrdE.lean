import Derived.Test.YtfmholpbpghojaaDoorOrdM
/-! Order, plain: what Bytes answers; bytes go as keys do; Keys reads them again. -/
namespace Go.Proofs.YtfmholpbpghojaaDoor
set_option linter.unusedVariables false
set_option linter.unusedSimpArgs false
open Go.RowKit Go.Lib
open Go.Proofs.YtfmholpbpghojaaDoor.ROrderBytes
open Go.Proofs.YtfmholpbpghojaaDoorW.PrintWords

def ofB (l : List UInt8) : List Int := l.map (fun c => (c.toNat : Int))
theorem ofB_append (a b : List UInt8) : ofB (a ++ b) = ofB a ++ ofB b := by simp [ofB]
theorem ofB_length (a : List UInt8) : (ofB a).length = a.length := by simp [ofB]
theorem strOf_ofB (l : List UInt8) : strOfNums (ofB l) = bs l := by
  have e : ((fun n : Int => UInt8.ofNat n.toNat) ∘ fun c : UInt8 => (c.toNat : Int)) = id := by funext c; simp
  simp [strOfNums, ofB, bs, e]
/-- Number bytes, the highest ahead. -/
def be : Nat → Nat → List UInt8
  | 0, _ => []
  | n + 1, u => UInt8.ofNat (u / 256 ^ n % 256) :: be n u
theorem be_length (n u : Nat) : (be n u).length = n := by induction n <;> simp [be, *]
/-- A text's bytes. -/
def esc : List UInt8 → List UInt8
  | [] => []
  | c :: r => if c = 0 then 0 :: 255 :: esc r else c :: esc r
theorem esc_length : ∀ l, (esc l).length ≤ 2 * l.length
  | [] => by simp [esc]
  | c :: r => by
    have := esc_length r
    unfold esc
    split <;> simp <;> omega
def uOf (n : Int) : Nat := (IntKind.u64.wrap (IntKind.u64.wrap n + 9223372036854775808)).toNat
def encK (x : S49) : List UInt8 :=
  UInt8.ofNat (x.f0 % 256).toNat :: (if x.f0 = 1 then be 8 (uOf x.f1) else if x.f0 = 2 then esc x.f2.data.toList ++ [0, 1] else [])
def rightB (x : S49) : Bool := if x.f0 = 0 then x.f1 == 0 && x.f2.toList == [] else if x.f0 = 1 then x.f2.toList == [] else x.f0 == 2 && x.f1 == 0
theorem right_f (x : S49) : order_Right.f x.f0 x.f1 x.f2 = some (rightB x) := by
  unfold order_Right.f rightB
  split
  · rename_i h; simp [h]
  · split
    · rfl
    · split
      · rename_i h; simp [h]
      · rename_i h; simp [h]
theorem drop_data (s : ByteArray) (i : Nat) (h : i < s.size) : s.data.toList.drop i = (s[i]'h) :: s.data.toList.drop (i + 1) := by
  have h' : i < s.data.toList.length := by rw [← size_eq]; exact h
  exact List.drop_eq_getElem_cons h'
theorem bt_eq (s : ByteArray) (i : Nat) (h : i < s.size) : bt s (i : Int) = ((s[i]'h).toNat : Int) := (bt_at s (i : Int) (by simpa using h)).symm
theorem u8_zero (c : UInt8) : ((c.toNat : Int) = 0) ↔ c = 0 := by
  constructor
  · intro h; exact UInt8.toNat_inj.1 (by have : (0 : UInt8).toNat = 0 := rfl; omega)
  · rintro rfl; rfl
theorem escaped_l0 (s : ByteArray) (hz : s.size < 2 ^ 60) : ∀ (n k i : Nat) (out : List UInt8), i + n = s.size → n + 1 ≤ k → out.length + 2 * n + 2 < 140737488355328 →
    order_escaped.l0 k (ofB out) s (s.size : Int) (i : Int) = some (ofB (out ++ (esc (s.data.toList.drop i) ++ [0, 1]))) := by
  intro n
  induction n with
  | zero =>
    intro k i out hi hk hl
    obtain ⟨k, rfl⟩ : ∃ j, k = j + 1 := ⟨k - 1, by omega⟩
    have hd : s.data.toList.drop i = [] := List.drop_eq_nil_of_le (by rw [← size_eq]; omega)
    unfold order_escaped.l0
    rw [if_neg (by omega), hd]
    simp only [Option.bind_some, esc, List.nil_append]
    rw [if_pos (by rw [ofB_length]; simp; omega), ofB_append]
    rfl
  | succ n ih =>
    intro k i out hi hk hl
    obtain ⟨k, rfl⟩ : ∃ j, k = j + 1 := ⟨k - 1, by omega⟩
    have hs : i < s.size := by omega
    have hw : wrap64 ((i : Int) + 1) = ((i + 1 : Nat) : Int) := by
      unfold wrap64; omega
    unfold order_escaped.l0
    rw [if_pos (by omega), if_pos (by omega), if_pos (by omega), bt_eq s i hs, drop_data s i hs, hw]
    have ih' := fun o h => ih k (i + 1) o (by omega) (by omega) h
    by_cases hc : (s[i]'hs) = 0
    · rw [if_pos ((u8_zero _).2 hc), if_pos (by rw [ofB_length]; omega)]
      simp only [Option.bind_some]
      rw [if_pos (by simp [ofB_length]; omega)]
      have e : ofB out ++ [0] ++ [255] = ofB (out ++ [0, 255]) := by rw [ofB_append]; simp [ofB]
      rw [e, ih' _ (by simp; omega), hc]
      simp [esc]
    · rw [if_neg (fun h => hc ((u8_zero _).1 h)), if_pos (by rw [ofB_length]; omega)]
      have e : ofB out ++ [((s[i]'hs).toNat : Int)] = ofB (out ++ [s[i]'hs]) := by rw [ofB_append]; simp [ofB]
      rw [e, ih' _ (by simp; omega)]
      simp [esc, hc]
theorem escaped_f (s : ByteArray) (k : Nat) (out : List UInt8) (hk : s.size + 1 ≤ k) (hl : out.length + 2 * s.size + 2 < 140737488355328) :
    order_escaped.f k (ofB out) s = some (ofB (out ++ (esc s.data.toList ++ [0, 1]))) := by
  have := escaped_l0 s (by omega) s.size k 0 out (by omega) hk hl
  simpa [order_escaped.f] using this
theorem bytes_l1 (l : List S49) (len j : Int) (u : Int) (hu : 0 ≤ u) : ∀ (n k : Nat) (out : List UInt8), n ≤ 8 → out.length + n < 140737488355328 →
    order_Bytes.l1 (k + n + 1) (ofB out) u l len j (8 - (n : Int)) = order_Bytes.l0 k (ofB (out ++ be n u.toNat)) l len (wrap64 (j + 1)) := by
  intro n
  induction n with
  | zero =>
    intro k out hn hl
    show order_Bytes.l1 (k + 1) _ _ _ _ _ _ = _
    unfold order_Bytes.l1
    rw [if_neg (by simp), be, List.append_nil]
  | succ n ih =>
    intro k out hn hl
    show order_Bytes.l1 (k + n + 1 + 1) _ _ _ _ _ _ = _
    unfold order_Bytes.l1
    have e8 : wrap64 (8 * (8 - ((n + 1 : Nat) : Int))) = 8 * (8 - ((n + 1 : Nat) : Int)) := by unfold wrap64; omega
    have e56 : wrap64 (56 - wrap64 (8 * (8 - ((n + 1 : Nat) : Int)))) = 8 * (n : Int) := by rw [e8]; unfold wrap64; omega
    have e1 : wrap64 (8 - ((n + 1 : Nat) : Int) + 1) = 8 - (n : Int) := by unfold wrap64; omega
    rw [if_pos (by omega), e56, if_pos (by omega), if_pos (by rw [ofB_length]; omega), e1]
    have hv : shr .u64 u (8 * (n : Int)) % 256 = ((UInt8.ofNat (u.toNat / 256 ^ n % 256)).toNat : Int) := by
      obtain ⟨m, rfl⟩ := Int.eq_ofNat_of_zero_le hu
      have h1 : min (8 * (n : Int)).toNat IntKind.u64.bits = 8 * n := by
        show min (8 * (n : Int)).toNat 64 = 8 * n
        omega
      unfold shr
      rw [h1, Int.toNat_natCast, UInt8.toNat_ofNat_of_lt' (show m / 256 ^ n % 256 < 256 from Nat.mod_lt _ (by omega))]
      have h2 : (2 : Int) ^ (8 * n) = 256 ^ n := by rw [Int.pow_mul]; rfl
      rw [h2, Int.natCast_emod, Int.natCast_ediv, Int.natCast_pow]
      rfl
    rw [hv]
    have e : ofB out ++ [((UInt8.ofNat (u.toNat / 256 ^ n % 256)).toNat : Int)] = ofB (out ++ [UInt8.ofNat (u.toNat / 256 ^ n % 256)]) := by rw [ofB_append]; simp [ofB]
    rw [e, ih k _ (by omega) (by simp; omega), be]
    simp
def szK (x : S49) : Nat := 12 + 2 * x.f2.size
def szL (l : List S49) : Nat := (l.map szK).sum
theorem rd_drop (l : List S49) (j : Nat) (h : j < l.length) : l.drop j = rd_T49 l (j : Int) :: l.drop (j + 1) := by
  rw [List.drop_eq_getElem_cons h]
  simp [rd_T49, h]
theorem bytes_l0 (l : List S49) (hlen : l.length < 2 ^ 60) : ∀ (n j k : Nat) (out : List UInt8), j + n = l.length → szL (l.drop j) + 1 ≤ k → out.length + szL (l.drop j) < 140737488355328 →
    order_Bytes.l0 k (ofB out) l (l.length : Int) (j : Int) = some (if (l.drop j).all rightB = true then (bs (out ++ (l.drop j).flatMap encK), 0) else (⟨#[]⟩, 1)) := by
  intro n
  induction n with
  | zero =>
    intro j k out hj hk hl
    obtain ⟨k, rfl⟩ : ∃ i, k = i + 1 := ⟨k - 1, by omega⟩
    have hd : l.drop j = [] := List.drop_eq_nil_of_le (by omega)
    unfold order_Bytes.l0
    rw [if_neg (by omega), hd]
    simp [strOf_ofB]
  | succ n ih =>
    intro j k out hj hk hl
    obtain ⟨k, rfl⟩ : ∃ i, k = i + 1 := ⟨k - 1, by omega⟩
    have hs : j < l.length := by omega
    have hw : wrap64 ((j : Int) + 1) = ((j + 1 : Nat) : Int) := by unfold wrap64; omega
    rw [rd_drop l j hs] at hk hl ⊢
    generalize hx : rd_T49 l (j : Int) = x at *
    have hsz : szL (x :: l.drop (j + 1)) = szK x + szL (l.drop (j + 1)) := by simp [szL]
    rw [hsz] at hk hl
    have hk1 : 12 ≤ szK x := by unfold szK; omega
    unfold order_Bytes.l0
    rw [if_pos (by omega), if_pos (by omega), if_pos (by omega), hx, right_f]
    simp only [Option.bind_some]
    cases hr : rightB x with
    | false => simp [hr]
    | true =>
      rw [if_pos rfl, if_pos (by rw [ofB_length]; omega)]
      have e : ofB out ++ [x.f0 % 256] = ofB (out ++ [UInt8.ofNat (x.f0 % 256).toNat]) := by
        rw [ofB_append]
        have : (UInt8.ofNat (x.f0 % 256).toNat).toNat = (x.f0 % 256).toNat := UInt8.toNat_ofNat_of_lt' (show (x.f0 % 256).toNat < 256 by omega)
        simp [ofB, this]
        omega
      rw [e]
      simp only [List.all_cons, hr, Bool.true_and, List.flatMap_cons]
      by_cases h1 : x.f0 = 1
      · rw [if_pos h1]
        obtain ⟨k', rfl⟩ : ∃ i, k = i + 8 + 1 := ⟨k - 9, by omega⟩
        have hu : 0 ≤ IntKind.u64.wrap (IntKind.u64.wrap x.f1 + 9223372036854775808) := by unfold IntKind.wrap; simp [IntKind.signed]; omega
        have h8 := bytes_l1 l (l.length : Int) (j : Int) _ hu 8 k' (out ++ [UInt8.ofNat (x.f0 % 256).toNat]) (by omega) (by simp; omega)
        rw [show (8 : Int) - ((8 : Nat) : Int) = 0 from rfl] at h8
        rw [h8, hw, ih (j + 1) k' _ (by omega) (by omega) (by simp [be_length]; omega)]
        have eb : encK x = UInt8.ofNat (x.f0 % 256).toNat :: be 8 (uOf x.f1) := by unfold encK; rw [if_pos h1]
        rw [eb]
        simp [uOf]
      · rw [if_neg h1]
        by_cases h2 : x.f0 = 2
        · rw [if_pos h2, escaped_f x.f2 k _ (by unfold szK at hk; omega) (by simp; unfold szK at hl; omega)]
          simp only [Option.bind_some]
          have hel := esc_length x.f2.data.toList
          rw [← size_eq] at hel
          rw [hw, ih (j + 1) k _ (by omega) (by omega) (by simp; unfold szK at hl; omega)]
          have eb : encK x = UInt8.ofNat (x.f0 % 256).toNat :: (esc x.f2.data.toList ++ [0, 1]) := by unfold encK; rw [if_neg h1, if_pos h2]
          rw [eb]
          simp
        · rw [if_neg h2, hw, ih (j + 1) k _ (by omega) (by omega) (by simp; omega)]
          have eb : encK x = [UInt8.ofNat (x.f0 % 256).toNat] := by unfold encK; rw [if_neg h1, if_neg h2]
          rw [eb]
          simp
def bytesL (l : List S49) : ByteArray × Int := if l.all rightB = true then (bs (l.flatMap encK), 0) else (⟨#[]⟩, 1)
theorem bytes_f (l : List S49) (hlen : l.length < 2 ^ 60) (hl : szL l < 140737488355328) : order_Bytes.f (szL l + 1) l = some (bytesL l) := by
  have := bytes_l0 l hlen l.length 0 (szL l + 1) [] (by omega) (by simp) (by simpa using hl)
  simpa [order_Bytes.f, bytesL, ofB] using this
end Go.Proofs.YtfmholpbpghojaaDoor
