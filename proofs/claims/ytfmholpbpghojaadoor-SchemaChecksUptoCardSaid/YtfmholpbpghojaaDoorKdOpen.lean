import Derived.Test.YtfmholpbpghojaaDoorWWords
import Derived.Test.YtfmholpbpghojaaDoorRows
import Derived.Deep.Slices
import Derived.ChangeSame
import Derived.OpenShut
/-! A slice that is read, element by element, as a row of Kd; bulk. -/
namespace Go.Proofs.YtfmholpbpghojaaDoor
set_option linter.unusedVariables false
set_option linter.unusedSimpArgs false
open Go.ChangeShapes Go.WideShapes Go.RowKit
open Go.Proofs.YtfmholpbpghojaaDoorW.PrintWords

/-- Two lists, pair by pair. -/
def both {α β : Type} (Q : α → β → Prop) : List α → List β → Prop
  | [], [] => True
  | x :: xs, y :: ys => Q x y ∧ both Q xs ys
  | _, _ => False
theorem both_map {α β γ : Type} {Q : α → β → Prop} (X : γ → α) (D : γ → β) : ∀ l : List γ, (∀ i ∈ l, Q (X i) (D i)) → both Q (l.map X) (l.map D)
  | [], _ => trivial
  | c :: l, h => ⟨h c (by simp), both_map X D l (fun i hi => h i (by simp [hi]))⟩
theorem both_mem {α β : Type} {Q : α → β → Prop} : ∀ {l : List α} {r : List β}, both Q l r → ∀ x ∈ l, ∃ y, Q x y
  | [], [], _, x, hx => by cases hx
  | [], _ :: _, h, _, _ => h.elim
  | _ :: _, [], h, _, _ => h.elim
  | a :: l, b :: r, h, x, hx => by
    rcases List.mem_cons.1 hx with rfl | hx
    · exact ⟨b, h.1⟩
    · exact both_mem h.2 x hx
/-- A measure of the rows by the data's bulk. -/
theorem both_bulk {α H : Type} {Q : α → DataW H → Prop} (m : α → Nat) (k : Nat) (hQ : ∀ x y, Q x y → m x ≤ k * Rows.uptoBulk y) : ∀ {l : List α} {r : List (DataW H)}, both Q l r → (l.map m).sum ≤ k * Rows.uptoBulkAll r
  | [], [], _ => by simp
  | [], _ :: _, h => h.elim
  | _ :: _, [], h => h.elim
  | a :: l, b :: r, h => by
    have h1 := hQ a b h.1
    have h2 := both_bulk m k hQ h.2
    rw [Rows.uptoBulkAll, Nat.mul_add, List.map_cons, List.sum_cons]
    omega
theorem bulk_pos {H : Type} (d : DataW H) : 0 < Rows.uptoBulk d := by
  cases d <;> unfold Rows.uptoBulk <;> (try split) <;> omega
/-- A slice that is read: a row of Kd, each element by its own opening. -/
theorem kd_slice {α H : Type} [Inhabited α] (d : Kd α) {enc : TypeId × Value → H} {P : Program} {w : World} {base : Nat} {spare : Nat → Bool} {held : Bool} {t e : TypeId} (Q : α → DataW H → Prop)
    (ht : P.underlying t = some (.slice e)) (hc : P.cellsOf e = d.sz)
    (hopen : ∀ n cs y, DataW.trod enc P w base spare held n e cs = some y → ∃ x : α, d.K w x cs ∧ Q x y.1)
    {fuel : Nat} {cs : List Value} {x : DataW H × List MemPlace} (h : DataW.trod enc P w base spare held fuel t cs = some x) :
    ∃ (A : Option Addr) (c : Nat) (xs : List α) (ds : List (DataW H)), cs = [.slice A xs.length c] ∧ xs.length ≤ c ∧ Kd.C d w A xs.length xs ∧ both Q xs ds ∧ ((x.1 = .nil ∧ ds = []) ∨ ∃ sp, x.1 = .slice ds sp) := by
  rcases Go.Deep.open_slice ht h with ⟨rfl, rfl⟩ | ⟨a, len, cap, m, n, D, Pl, rfl, hb, hl, hm, hmm, rfl, hx⟩
  · exact ⟨none, 0, [], [], rfl, Nat.le_refl _, Kd.C_nil _ _, trivial, .inl ⟨rfl, rfl⟩⟩
  · have hlm : len ≤ m := by rw [hmm]; split <;> omega
    obtain ⟨X, hX⟩ := Go.Deep.choose_lt (α := α) (n := len) (p := fun i x => ∃ c : List Value, c.length = d.sz ∧ d.K w x c ∧ (∀ j u, c[j]? = some u → w.cell? (a.add (i * d.sz + j)) = some u) ∧ Q x (D i)) (fun i hi => by
      obtain ⟨cs', h1, h2⟩ := hx i (by omega)
      obtain ⟨_, hlen, hcell⟩ := World.cells?_some h1
      obtain ⟨x, hK, hq⟩ := hopen _ _ _ h2
      refine ⟨x, cs', by rw [hlen, hc], hK, fun j u hu => ?_, hq⟩
      have hj : j < cs'.length := (List.getElem?_eq_some_iff.1 hu).1
      have := hcell j (by omega)
      rw [Go.Deep.add_add, hc] at this
      rw [this, hu])
    refine ⟨some a, cap, (List.range len).map X, (List.range len).map D, by simp, by simpa using hl, ⟨by simp, by have : maxLen = 9223372036854775807 := rfl; simp; omega, fun _ => ⟨a, rfl, fun j p hp => ?_⟩⟩, both_map X D _ (fun i hi => ?_), .inr ⟨_, rfl⟩⟩
    · have hj : j < len := by
        have := (List.getElem?_eq_some_iff.1 hp).1
        simpa using this
      have e : p = X j := by simpa [List.getElem?_map, List.getElem?_range hj] using hp.symm
      subst e
      obtain ⟨c, h1, h2, h3, _⟩ := hX j hj
      exact ⟨c, h1, h2, h3⟩
    · obtain ⟨_, _, _, _, h4⟩ := hX i (List.mem_range.1 hi)
      exact h4
end Go.Proofs.YtfmholpbpghojaaDoor
