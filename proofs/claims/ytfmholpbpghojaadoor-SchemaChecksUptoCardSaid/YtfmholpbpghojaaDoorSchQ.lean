import Derived.Test.YtfmholpbpghojaaDoorSchP
/-! What was lent, as it is read: a row of fields (entries) like any other, and a mark behind it and behind each row within. -/
namespace Go.Proofs.YtfmholpbpghojaaDoor
set_option linter.unusedVariables false
set_option linter.unusedSimpArgs false
open Go.RowKit Go.Lib
open Go.Proofs.YtfmholpbpghojaaDoor.RSchemaChecks
open Go.Proofs.YtfmholpbpghojaaDoorW.PrintWords

theorem chain_pre {w : World} {A : Option Addr} {l m : List Int} (h : Kd.C (Kd.int .i64) w A (l ++ m).length (l ++ m)) : Kd.C (Kd.int .i64) w A l.length l := by
  have h1 := Kd.C_take (m := l.length) h (by simp)
  have e : (l ++ m).take l.length = l := by simp
  rwa [e] at h1
theorem kLField_K {w : World} {x : S66} {cs : List Value} (h : kLField.K w (toLField x) cs) : k66.K w x cs := by
  obtain ⟨_, _, rfl, rfl, ⟨_, _, rfl, rfl, ⟨_, _, rfl, ⟨A2, c2, rfl, l2, g2⟩, ⟨_, _, rfl, rfl, ⟨_, _, rfl, rfl, ⟨_, _, rfl, rfl, rfl⟩⟩⟩⟩⟩⟩ := h
  exact k66_mk w x (by have : (x.f2 ++ [-7171] : List Int).length ≤ c2 := l2; simp at this; omega) (chain_pre (show Kd.C (Kd.int .i64) w A2 (x.f2 ++ [-7171]).length (x.f2 ++ [-7171]) from g2))
theorem kLEntry_K {w : World} {x : S75} {cs : List Value} (h : kLEntry.K w (toLEntry x) cs) : k75.K w x cs := by
  obtain ⟨_, _, rfl, rfl, ⟨_, _, rfl, rfl, ⟨A2, c2, rfl, l2, g2⟩⟩⟩ := h
  exact k75_mk w x (by have : (x.f2 ++ [-7171] : List Int).length ≤ c2 := l2; simp at this; omega) (chain_pre (show Kd.C (Kd.int .i64) w A2 (x.f2 ++ [-7171]).length (x.f2 ++ [-7171]) from g2))
/-- A row of lent things is a row of the things. -/
theorem lent_C {α β : Type} {d : Kd α} {d' : Kd β} (f : β → α) (hs : d.sz = d'.sz) (hK : ∀ w x cs, d.K w (f x) cs → d'.K w x cs) {w : World} {A : Option Addr} {l : List β} {m : List α} (h : Kd.C d w A (l.map f ++ m).length (l.map f ++ m)) : Kd.C d' w A l.length l := by
  refine ⟨rfl, by have := h.2.1; simp at this; omega, fun hp => ?_⟩
  obtain ⟨ad, e, hc⟩ := h.2.2 (by simp; omega)
  refine ⟨ad, e, fun j p hj => ?_⟩
  have hjl : j < l.length := (List.getElem?_eq_some_iff.1 hj).1
  obtain ⟨cs, h1, h2, h3⟩ := hc j (f p) (by rw [List.getElem?_append_left (by simpa using hjl), List.getElem?_map, hj]; rfl)
  exact ⟨cs, by rw [h1, hs], hK _ _ _ h2, by rw [← hs]; exact h3⟩
end Go.Proofs.YtfmholpbpghojaaDoor
