import Derived.Test.YtfmholpbpghojaaDoorKdOpen
import Derived.Test.YtfmholpbpghojaaDoorSchR
import Derived.Lib.SmallJoins
/-! A schema and a document that are read: rows of fields, of entries; bulk. -/
namespace Go.Proofs.YtfmholpbpghojaaDoor
set_option linter.unusedVariables false
set_option linter.unusedSimpArgs false
open Go.ChangeShapes Go.WideShapes Go.RowKit
open Go.Proofs.YtfmholpbpghojaaDoor.RSchemaChecks
open Go.Proofs.YtfmholpbpghojaaDoorW.PrintWords

theorem both_in {α β : Type} {Q : α → β → Prop} : ∀ {l : List α} {r : List β}, both Q l r → ∀ x ∈ l, ∃ y ∈ r, Q x y
  | [], [], _, x, hx => by cases hx
  | [], _ :: _, h, _, _ => h.elim
  | _ :: _, [], h, _, _ => h.elim
  | a :: l, b :: r, h, x, hx => by
    rcases List.mem_cons.1 hx with rfl | hx
    · exact ⟨b, List.mem_cons_self, h.1⟩
    · obtain ⟨y, hy, hq⟩ := both_in h.2 x hx
      exact ⟨y, List.mem_cons_of_mem _ hy, hq⟩
theorem bulk_in {H : Type} : ∀ {r : List (DataW H)} {y : DataW H}, y ∈ r → Rows.uptoBulk y ≤ Rows.uptoBulkAll r
  | [], _, h => by cases h
  | b :: r, y, h => by
    rw [Rows.uptoBulkAll]
    rcases List.mem_cons.1 h with rfl | h
    · omega
    · have := bulk_in h
      omega
theorem bulk_len {α H : Type} {Q : α → DataW H → Prop} : ∀ {l : List α} {r : List (DataW H)}, both Q l r → l.length ≤ Rows.uptoBulkAll r
  | [], _, _ => by simp
  | _ :: _, [], h => h.elim
  | _ :: l, b :: r, h => by
    have h1 := bulk_len h.2
    have h2 := bulk_pos b
    rw [Rows.uptoBulkAll, List.length_cons]
    omega
theorem bulk_sl {H : Type} {d : DataW H} {ds : List (DataW H)} (h : (d = .nil ∧ ds = []) ∨ ∃ sp, d = .slice ds sp) : Rows.uptoBulkAll ds ≤ Rows.uptoBulk d := by
  rcases h with ⟨rfl, rfl⟩ | ⟨sp, rfl⟩ <;> simp only [Rows.uptoBulk, Rows.uptoBulkAll] <;> omega
theorem zc_int : Tryd.prog.cellsOf 3 = 1 := by kernel_rfl
theorem zc_int64 : Tryd.prog.cellsOf 2 = 1 := by kernel_rfl
theorem zc_string : Tryd.prog.cellsOf 9 = 1 := by kernel_rfl
theorem zc_bool : Tryd.prog.cellsOf 4 = 1 := by kernel_rfl
theorem zc_ints : Tryd.prog.cellsOf 64 = 1 := by kernel_rfl
theorem zc_int64s : Tryd.prog.cellsOf 73 = 1 := by kernel_rfl
theorem zc_fields : Tryd.prog.cellsOf 22 = 1 := by kernel_rfl
theorem zc_entries : Tryd.prog.cellsOf 25 = 1 := by kernel_rfl
theorem zc_Entry : Tryd.prog.cellsOf 75 = 3 := by kernel_rfl
theorem zc_Field : Tryd.prog.cellsOf 66 = 7 := by kernel_rfl
theorem zc_Schema : Tryd.prog.cellsOf 24 = 1 := by kernel_rfl
theorem zc_Doc : Tryd.prog.cellsOf 27 = 1 := by kernel_rfl
theorem string_bulk {H : Type} (c : ByteArray) : c.size ≤ Rows.uptoBulk (H := H) (.lit (.string c.data.toList)) := by
  have hs : c.data.toList.length = c.size := (Go.Lib.size_eq c).symm
  simp only [Rows.uptoBulk]
  omega
theorem int_trod {H : Type} {enc : TypeId × Value → H} {W : World} {base : Nat} {sp : Nat → Bool} {held : Bool} (n : Nat) (cs : List Value) (y : DataW H × List MemPlace) (h : DataW.trod enc Tryd.prog W base sp held n 3 cs = some y) : ∃ x : Int, (Kd.int .i64).K W x cs ∧ True := by
  obtain ⟨a, e0, r0, w0⟩ := DataW.trod_int Tryd.underlying3 h
  exact ⟨a, e0, trivial⟩
theorem int64_trod {H : Type} {enc : TypeId × Value → H} {W : World} {base : Nat} {sp : Nat → Bool} {held : Bool} (n : Nat) (cs : List Value) (y : DataW H × List MemPlace) (h : DataW.trod enc Tryd.prog W base sp held n 2 cs = some y) : ∃ x : Int, (Kd.int .i64).K W x cs ∧ True := by
  obtain ⟨a, e0, r0, w0⟩ := DataW.trod_int Tryd.underlying2 h
  exact ⟨a, e0, trivial⟩
/-- What an entry's reading tells of it. -/
def QE {H : Type} (x : S75) (y : DataW H) : Prop := x.f0.size ≤ Rows.uptoBulk y ∧ x.f1.size ≤ Rows.uptoBulk y ∧ x.f2.length ≤ Rows.uptoBulk y
set_option maxRecDepth 100000 in
theorem entry_trod {H : Type} {enc : TypeId × Value → H} {W : World} {base : Nat} {sp : Nat → Bool} {held : Bool} (n : Nat) (cs : List Value) (y : DataW H × List MemPlace) (h : DataW.trod enc Tryd.prog W base sp held n 75 cs = some y) : ∃ x : S75, k75.K W x cs ∧ QE x y.1 := by
  obtain ⟨y0, y1, y2, m, rfl, hl, h0, h1, h2⟩ := Go.Deep.trod_struct3 Tryd.underlying75 h
  rw [zc_Entry] at hl
  obtain ⟨c0, c1, c2, rfl⟩ : ∃ a b c, cs = [a, b, c] := by match cs, hl with | [a, b, c], _ => exact ⟨a, b, c, rfl⟩
  simp only [zc_string, zc_int64s, List.drop_zero, List.drop_succ_cons, List.take_succ_cons, List.take_zero] at h0 h1 h2
  obtain ⟨a, e0, r0, w0⟩ := DataW.trod_string Tryd.underlying9 h0
  obtain ⟨b, e1, r1, w1⟩ := DataW.trod_string Tryd.underlying9 h1
  obtain ⟨A2, cc, xs, ds, e2, hc, hC, hb, hn⟩ := kd_slice (Kd.int .i64) (fun _ _ => True) Tryd.underlying73 zc_int64 int64_trod h2
  simp at e0 e1 e2
  subst e0 e1 e2 r0 r1
  refine ⟨⟨a, b, xs⟩, k75_mk W ⟨a, b, xs⟩ hc hC, ?_⟩
  have i0 := string_bulk (H := H) a
  have i1 := string_bulk (H := H) b
  have i2 := bulk_len hb
  have i3 := bulk_sl hn
  unfold QE
  simp only [Rows.uptoBulk, Rows.uptoBulkAll] at i0 i1 ⊢
  omega
section
variable {H : Type} {P : Program} {enc : TypeId × Value → H} {w : World} {base : Nat} {spare : Nat → Bool} {held : Bool}
theorem trod_struct7 {t : TypeId} {f0 f1 f2 f3 f4 f5 f6 : Field} {fuel : Nat} {cs : List Value} {x : DataW H × List MemPlace} (ht : P.underlying t = some (.struct #[f0, f1, f2, f3, f4, f5, f6])) (h : DataW.trod enc P w base spare held fuel t cs = some x) :
    ∃ y0 y1 y2 y3 y4 y5 y6 n, x.1 = .agg [y0.1, y1.1, y2.1, y3.1, y4.1, y5.1, y6.1] ∧ cs.length = P.cellsOf t ∧ DataW.trod enc P w base spare held n f0.type ((cs.drop f0.offset).take (P.cellsOf f0.type)) = some y0 ∧
      DataW.trod enc P w base spare held n f1.type ((cs.drop f1.offset).take (P.cellsOf f1.type)) = some y1 ∧ DataW.trod enc P w base spare held n f2.type ((cs.drop f2.offset).take (P.cellsOf f2.type)) = some y2 ∧
      DataW.trod enc P w base spare held n f3.type ((cs.drop f3.offset).take (P.cellsOf f3.type)) = some y3 ∧ DataW.trod enc P w base spare held n f4.type ((cs.drop f4.offset).take (P.cellsOf f4.type)) = some y4 ∧
      DataW.trod enc P w base spare held n f5.type ((cs.drop f5.offset).take (P.cellsOf f5.type)) = some y5 ∧ DataW.trod enc P w base spare held n f6.type ((cs.drop f6.offset).take (P.cellsOf f6.type)) = some y6 := by
  obtain ⟨xs, n, _, rfl, hl, hlen, hf⟩ := DataW.trod_struct ht h
  match xs, hlen with
  | [y0, y1, y2, y3, y4, y5, y6], _ => exact ⟨y0, y1, y2, y3, y4, y5, y6, n, by simp, hl, by simpa using hf 0 f0 rfl, by simpa using hf 1 f1 rfl, by simpa using hf 2 f2 rfl, by simpa using hf 3 f3 rfl, by simpa using hf 4 f4 rfl, by simpa using hf 5 f5 rfl, by simpa using hf 6 f6 rfl⟩
end
/-- What a field's reading tells of it. -/
def QF {H : Type} (x : S66) (y : DataW H) : Prop := x.f0.size ≤ Rows.uptoBulk y ∧ x.f2.length ≤ Rows.uptoBulk y
set_option maxRecDepth 100000 in
theorem field_trod {H : Type} {enc : TypeId × Value → H} {W : World} {base : Nat} {sp : Nat → Bool} {held : Bool} (n : Nat) (cs : List Value) (y : DataW H × List MemPlace) (h : DataW.trod enc Tryd.prog W base sp held n 66 cs = some y) : ∃ x : S66, k66.K W x cs ∧ QF x y.1 := by
  obtain ⟨y0, y1, y2, y3, y4, y5, y6, m, ey, hl, h0, h1, h2, h3, h4, h5, h6⟩ := trod_struct7 Tryd.underlying66 h
  rw [zc_Field] at hl
  obtain ⟨c0, c1, c2, c3, c4, c5, c6, rfl⟩ : ∃ a b c d e f g, cs = [a, b, c, d, e, f, g] := by match cs, hl with | [a, b, c, d, e, f, g], _ => exact ⟨a, b, c, d, e, f, g, rfl⟩
  simp only [zc_string, zc_int, zc_ints, zc_bool, List.drop_zero, List.drop_succ_cons, List.take_succ_cons, List.take_zero] at h0 h1 h2 h3 h4 h5 h6
  obtain ⟨a0, e0, r0, w0⟩ := DataW.trod_string Tryd.underlying9 h0
  obtain ⟨a1, e1, r1, w1⟩ := DataW.trod_int Tryd.underlying3 h1
  obtain ⟨A2, cc, xs, ds, e2, hc, hC, hb, hn⟩ := kd_slice (Kd.int .i64) (fun _ _ => True) Tryd.underlying64 zc_int int_trod h2
  obtain ⟨a3, e3, r3, w3⟩ := DataW.trod_int Tryd.underlying3 h3
  obtain ⟨a4, e4, r4, w4⟩ := DataW.trod_int Tryd.underlying3 h4
  obtain ⟨a5, e5, r5⟩ := DataW.trod_bool Tryd.underlying4 h5
  obtain ⟨a6, e6, r6⟩ := DataW.trod_bool Tryd.underlying4 h6
  simp at e0 e1 e2 e3 e4 e5 e6
  subst e0 e1 e2 e3 e4 e5 e6 r0
  refine ⟨⟨a0, a1, xs, a3, a4, a5, a6⟩, k66_mk W ⟨a0, a1, xs, a3, a4, a5, a6⟩ hc hC, ?_⟩
  have i0 := string_bulk (H := H) a0
  have i2 := bulk_len hb
  have i3 := bulk_sl hn
  unfold QF
  rw [ey]
  simp only [Rows.uptoBulk, Rows.uptoBulkAll] at i0 ⊢
  omega
instance : Inhabited S66 := ⟨z66⟩
instance : Inhabited S75 := ⟨z75⟩
set_option maxRecDepth 100000 in
/-- A schema as an argument. -/
theorem schema_open {H : Type} {enc : TypeId × Value → H} {W : World} {b base : Nat} {sp : Nat → Bool} {held : Bool} {v : Value} {d : DataW H} {p : List MemPlace} (hv : Value.okWide Tryd.prog W .any b 24 v) (h : DataW.Trod enc Tryd.prog W base sp held 24 v d p) :
    ∃ (A : Option Addr) (c : Nat) (fs : List S66), v = .agg #[.slice A fs.length c] ∧ fs.length ≤ c ∧ Kd.C k66 W A fs.length fs ∧ fs.length ≤ Rows.uptoBulk d ∧ ∀ x ∈ fs, x.f0.size ≤ Rows.uptoBulk d ∧ x.f2.length ≤ Rows.uptoBulk d := by
  obtain ⟨cs, rfl, hcs⟩ := okWide_struct Tryd.underlying24 hv
  obtain ⟨m, hm⟩ := h
  obtain ⟨y0, n, ey, hl, h0⟩ := trod_struct1 Tryd.underlying24 hm
  rw [zc_Schema] at hl
  obtain ⟨c0, hc0⟩ : ∃ a, (Value.agg cs).cells.toList = [a] := by match (Value.agg cs).cells.toList, hl with | [a], _ => exact ⟨a, rfl⟩
  rw [hc0] at h0
  simp only [zc_fields, List.drop_zero, List.take_succ_cons, List.take_zero] at h0
  obtain ⟨A, c, xs, ds, e, hc, hC, hb, hn⟩ := kd_slice k66 QF Tryd.underlying22 zc_Field field_trod h0
  simp at e
  subst e
  have hcs' : cs = #[.slice A xs.length c] := by
    have h1 : cs.toList = [.slice A xs.length c] := hc0
    obtain ⟨l⟩ := cs
    simpa using h1
  have i2 := bulk_len hb
  have i3 := bulk_sl hn
  obtain ⟨rfl, rfl⟩ : d = .agg [y0.1] ∧ p = y0.2 := by simpa using ey
  refine ⟨A, c, xs, by rw [hcs'], hc, hC, ?_, fun x hx => ?_⟩
  · simp only [Rows.uptoBulk, Rows.uptoBulkAll]
    omega
  · obtain ⟨y, hy, q1, q2⟩ := both_in hb x hx
    have := bulk_in hy
    simp only [Rows.uptoBulk, Rows.uptoBulkAll]
    omega
set_option maxRecDepth 100000 in
/-- A document as an argument. -/
theorem doc_open {H : Type} {enc : TypeId × Value → H} {W : World} {b base : Nat} {sp : Nat → Bool} {held : Bool} {v : Value} {d : DataW H} {p : List MemPlace} (hv : Value.okWide Tryd.prog W .any b 27 v) (h : DataW.Trod enc Tryd.prog W base sp held 27 v d p) :
    ∃ (A : Option Addr) (c : Nat) (l : List S75), v = .agg #[.slice A l.length c] ∧ l.length ≤ c ∧ Kd.C k75 W A l.length l ∧ l.length ≤ Rows.uptoBulk d ∧ ∀ x ∈ l, x.f0.size ≤ Rows.uptoBulk d ∧ x.f1.size ≤ Rows.uptoBulk d ∧ x.f2.length ≤ Rows.uptoBulk d := by
  obtain ⟨cs, rfl, hcs⟩ := okWide_struct Tryd.underlying27 hv
  obtain ⟨m, hm⟩ := h
  obtain ⟨y0, n, ey, hl, h0⟩ := trod_struct1 Tryd.underlying27 hm
  rw [zc_Doc] at hl
  obtain ⟨c0, hc0⟩ : ∃ a, (Value.agg cs).cells.toList = [a] := by match (Value.agg cs).cells.toList, hl with | [a], _ => exact ⟨a, rfl⟩
  rw [hc0] at h0
  simp only [zc_entries, List.drop_zero, List.take_succ_cons, List.take_zero] at h0
  obtain ⟨A, c, xs, ds, e, hc, hC, hb, hn⟩ := kd_slice k75 QE Tryd.underlying25 zc_Entry entry_trod h0
  simp at e
  subst e
  have hcs' : cs = #[.slice A xs.length c] := by
    have h1 : cs.toList = [.slice A xs.length c] := hc0
    obtain ⟨l⟩ := cs
    simpa using h1
  have i2 := bulk_len hb
  have i3 := bulk_sl hn
  obtain ⟨rfl, rfl⟩ : d = .agg [y0.1] ∧ p = y0.2 := by simpa using ey
  refine ⟨A, c, xs, by rw [hcs'], hc, hC, ?_, fun x hx => ?_⟩
  · simp only [Rows.uptoBulk, Rows.uptoBulkAll]
    omega
  · obtain ⟨y, hy, q1, q2, q3⟩ := both_in hb x hx
    have := bulk_in hy
    simp only [Rows.uptoBulk, Rows.uptoBulkAll]
    omega
end Go.Proofs.YtfmholpbpghojaaDoor
