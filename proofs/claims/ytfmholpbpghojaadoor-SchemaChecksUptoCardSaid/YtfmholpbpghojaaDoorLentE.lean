import Derived.Test.YtfmholpbpghojaaDoorLent
import Derived.Test.YtfmholpbpghojaaDoorSchR
/-! Entries, documents and schemas that are lent. (MADE BY PROGRAM: mk_lent.py.) -/
namespace Go.Proofs.YtfmholpbpghojaaDoor
set_option linter.unusedVariables false
set_option linter.unusedSimpArgs false
open Go.RowKit Go.Lib
open Go.Proofs.YtfmholpbpghojaaDoor.RSchemaChecks
open Go.Proofs.YtfmholpbpghojaaDoorW.PrintWords Go.Proofs.YtfmholpbpghojaaDoorW.PrintLast Go.Proofs.YtfmholpbpghojaaDoorW.PrintMore

/-- A row of mine, behind a box that was new at w1 and what was made behind it. -/
theorem mine_boxed {α : Type} {d : Kd α} {e : Nat} {w1 w2 : World} {base : Nat} {v : Value} {out : List α} {o : Obj} (ho : d.R e w1 base (fun k => base ≤ k) v out) (hb : Below (w1.alloc o).heap.size (w1.alloc o) w2) :
    d.R e w2 base (fun k => base ≤ k ∧ k < w1.heap.size) v out :=
  Kd.R_below (Kd.R_alloc (Kd.R_mono (Kd.R_bound ho) (fun k hk => (⟨hk.1, hk.2.2.1⟩ : base ≤ k ∧ k < w1.heap.size))) o) hb
theorem mine_set {α : Type} {d : Kd α} {e : Nat} {w1 w2 : World} {base : Nat} {v : Value} {out : List α} (ho : d.R e w2 base (fun k => base ≤ k ∧ k < w1.heap.size) v out) (i : Nat) (u : Value) :
    d.R e (w2.setCell ⟨w1.heap.size, i, none⟩ u) base (fun k => base ≤ k ∧ k < w1.heap.size) v out :=
  Kd.R_far (p := ⟨w1.heap.size, i, none⟩) ho (fun k h => by show k ≠ w1.heap.size; omega) u
theorem made_set {α : Type} {d : Kd α} {w1 w2 : World} {b base : Nat} {x : α} {cs : List Value} (h : d.M w2 b (fun k => b ≤ k) x cs) (hb : w1.heap.size + 1 = b) (hB : base ≤ b) (i : Nat) (u : Value) :
    d.M (w2.setCell ⟨w1.heap.size, i, none⟩ u) base (fun k => w1.heap.size < k) x cs :=
  Kd.M_far (p := ⟨w1.heap.size, i, none⟩) (d.M_lower hB (d.M_mono (fun k (hk : b ≤ k) => (by omega : w1.heap.size < k)) h)) (fun k h => by show k ≠ w1.heap.size; omega) u

/-- A lent Entry. -/
structure LEntry where
  f0 : ByteArray
  f1 : ByteArray
  f2 : (List Int × List Int)
def kLEntry : Kd LEntry := Kd.iso (Kd.pair Kd.string (Kd.pair Kd.string (kview 2 (Kd.int .i64)))) (fun x : LEntry => (x.f0, x.f1, x.f2))
theorem kLEntry_mkM (w : World) (base : Nat) (ok : Nat → Prop) (x : LEntry) {u : Value} (g : (kview 2 (Kd.int .i64)).M w base ok x.f2 [u]) : kLEntry.M w base ok x [.string x.f0, .string x.f1, u] := ⟨[.string x.f0], [.string x.f1, u], rfl, rfl, ⟨[.string x.f1], [u], rfl, rfl, g⟩⟩
def toLEntry (x : S75) : LEntry := ⟨x.f0, x.f1, (x.f2, [-7171])⟩
def markLEntry : LEntry := ⟨⟨#[109, 97, 114, 107]⟩, ⟨#[]⟩, ([], [])⟩
theorem infoLEntry : (Tryd.prog.info? 75).map (fun i => (i.zero, i.size, i.bytes)) = some (some (.agg #[.string ⟨#[]⟩, .string ⟨#[]⟩, .slice none 0 0]), 3, 56) := by kernel_rfl
theorem rd_dropEntry (l : List S75) (j : Nat) (h : j < l.length) : l.drop j = rd_T75 l (j : Int) :: l.drop (j + 1) := by
  rw [List.drop_eq_getElem_cons h]
  simp [rd_T75, h]
theorem rd_takeEntry (l : List S75) (j : Nat) (h : j < l.length) : (l.take (j + 1)).map toLEntry = (l.take j).map toLEntry ++ [toLEntry (rd_T75 l (j : Int))] := by
  rw [List.take_succ_eq_append_getElem h, List.map_append]
  simp [rd_T75, h]
theorem rd_memEntry (l : List S75) (j : Nat) (h : j < l.length) : rd_T75 l (j : Int) ∈ l := by
  simp [rd_T75, h]
set_option maxHeartbeats 1000000 in
set_option maxRecDepth 100000 in
theorem lentEntry_any (A : Option Addr) (c : Nat) (l : List S75) (w : World) (hr : Kd.C k75 w A l.length l) (hz : l.length < 1099511627776) (hzs : ∀ x ∈ l, x.f2.length < 17592186044000) :
    Calls Tryd.prog 37 #[.slice A l.length c] w fun e w' => ∃ v, e = .returned (v) ∧ (kview 75 kLEntry).M w' w.heap.size (fun k => w.heap.size ≤ k) (l.map toLEntry, [markLEntry]) [v] ∧ Below w.heap.size w w' := by
  have HR := Lib.hid hr
  have HZ := Lib.hid hz
  have HZS := Lib.hid hzs
  clear hr hz hzs
  go_enter Tryd.func37, Tryd.ntmps37
  go_wp2_with fail
  go_loopg [3, 4] l.length (fun kq v3 v4 w' => ∃ i : Nat, v4 = .int .i64 (i : Int) ∧ Hid (i + kq = l.length) ∧ Hid (Kd.R kLEntry 75 w' w.heap.size (fun k => w.heap.size ≤ k) v3 ((l.take i).map toLEntry)) ∧ Hid (Below w.heap.size w w'))
  case atStart => exact ⟨0, rfl, by show _ = _; omega, Kd.R_nil _ _ _ _ _, Below.refl _ _⟩
  case round =>
    obtain ⟨i, rfl, hi, ho, hbl⟩ := hrel
    have hi1 := hi.out
    have hni : (0 : Int) ≤ i := by omega
    have hwz := hbl.out.size
    have hzz := HZ.out
    cases gk with
    | succ k =>
      have hia : i < l.length := by omega
      have hia' : (i : Int) < l.length := by omega
      obtain ⟨ad, A2, c2, eA, hx0, hx1, hx2, hl2, hi2⟩ := at_T75 HR.out i hni hia'
      subst eA
      rw [Int.toNat_natCast] at hx0 hx1 hx2
      have hbw : Below w.heap.size w wr := hbl.out
      have hadl : (ad.add (i * 3)).block < wr.heap.size := Nat.lt_of_lt_of_le (World.block_lt_of_cell? w _ hx0) hbw.size
      replace hx0 := (hbw.cell (World.block_lt_of_cell? w _ hx0)).trans hx0
      replace hx1 := (hbw.cell (World.block_lt_of_cell? w _ hx1)).trans hx1
      replace hx2 := (hbw.cell (World.block_lt_of_cell? w _ hx2)).trans hx2
      have HI := Lib.hid (Kd.C_below hi2 hbw)
      have HTK := Lib.hid (rd_takeEntry l i hia)
      have hmem := rd_memEntry l i hia
      have hzx := HZS.out _ hmem
      generalize rd_T75 l (i : Int) = x at *
      go_wp2_with fail
      refine (lentInt64s_any A2 c2 x.f2 _ (Kd.C_alloc HI.out _) hzx).mono ?_
      rintro e w2 ⟨v2, rfl, hv2, hb2⟩
      obtain ⟨A3, c3, ev, -⟩ := id hv2
      have ev2 : v2 = .slice A3 x.f2.length c3 := by simpa using ev
      subst ev2
      have hbx := blk_below (blk_new wr (.cells #[.string x.f0, .string x.f1, .slice A2 x.f2.length c2] 75)) hb2
      have hz2 : wr.heap.size < w2.heap.size := blk_lt hbx
      have hb0_ : w2.cell? ⟨wr.heap.size, 0, none⟩ = some (.string x.f0) := (blk_cell hbx 0).trans rfl
      have hb1_ : w2.cell? ⟨wr.heap.size, 1, none⟩ = some (.string x.f1) := (blk_cell hbx 1).trans rfl
      have hb2_ : w2.cell? ⟨wr.heap.size, 2, none⟩ = some (.slice A2 x.f2.length c2) := (blk_cell hbx 2).trans rfl
      have hbf_ : w2.frozen? ⟨wr.heap.size, 2, none⟩ = false := blk_frozen hbx 2
      have HO1 := Lib.hid (mine_set (mine_boxed ho.out hb2) 2 (.slice A3 x.f2.length c3))
      have HM1 := Lib.hid (made_set (w1 := wr) (base := w.heap.size) hv2 (by rw [World.size_alloc]) (by rw [World.size_alloc]; omega) 2 (.slice A3 x.f2.length c3))
      have HB1 := Lib.hid (((hbl.out.alloc hwz _).trans (hb2.mono (by rw [World.size_alloc]; omega))).setCell (p := ⟨wr.heap.size, 2, none⟩) hwz (.slice A3 x.f2.length c3))
      clear hv2 hb2 ev
      go_wp2_with ((with_reducible refine gate_builtin (b := .append) (xs := #[.tmp 20, .tmp 22]) rfl ?_); at_builtin; refine Kd.R_append kLEntry (w0 := _) w.heap.size rfl (.tmp 20) (.tmp 22) 25 75 (.agg #[.string ⟨#[]⟩, .string ⟨#[]⟩, .slice none 0 0]) 56 rfl Tryd.underlying25 infoLEntry rfl (by decide) (by omega) u3 ((l.take i).map toLEntry) (toLEntry x) _ (fun k => w.heap.size ≤ k) (fun k => wr.heap.size < k) rfl (by first | rfl | (rw [World.size_setCell]; rfl)) (kLEntry_mkM _ _ _ (toLEntry x) HM1.out) (fun k hk => ⟨by omega, fun he => by have := Kd.R_lt ho.out k he.symm; omega⟩) (fun k hk => Nat.le_trans HB1.out.size hk) (Kd.R_mono HO1.out (fun _ h => h.1)) (Below.refl _ _) HB1.out.size (by have := HZ.out; rw [List.length_map, List.length_take]; omega) ?_; intro v3 w3 ho3 hb3 hg3 hat3; rw [← HTK.out] at ho3; have HO3 := Lib.hid ho3; have HB3 := Lib.hid (HB1.out.trans hb3); clear ho3 hb3 hg3 hat3)
      go_roundg k
      case measure => omega
      case rel => exact ⟨i + 1, by go_num, by show i + 1 + k = l.length; omega, HO3, HB3⟩
    | zero =>
      have hi2 : i = l.length := by omega
      subst hi2
      rw [List.take_length] at ho
      obtain ⟨F, hF⟩ : ∃ F, F = l.map toLEntry ++ [markLEntry] := ⟨_, rfl⟩
      have hFz : F.length = l.length + 1 := by rw [hF]; simp
      have HF := Lib.hid hF
      have HFZ := Lib.hid hFz
      clear hF hFz
      go_wp2_with ((with_reducible refine gate_builtin (b := .append) (xs := #[.tmp 24, .tmp 26]) rfl ?_); at_builtin; refine Kd.R_append kLEntry (w0 := _) w.heap.size rfl (.tmp 24) (.tmp 26) 25 75 (.agg #[.string ⟨#[]⟩, .string ⟨#[]⟩, .slice none 0 0]) 56 rfl Tryd.underlying25 infoLEntry rfl (by decide) (by omega) u3 (l.map toLEntry) markLEntry _ (fun k => w.heap.size ≤ k) (fun _ => False) rfl rfl (kLEntry_mkM _ _ _ markLEntry ⟨none, 0, rfl, Kd.R_nil _ _ _ _ _⟩) (fun _ hk => hk.elim) (fun k hk => Nat.le_trans hbl.out.size hk) ho.out (Below.refl _ _) hbl.out.size (by have := HZ.out; rw [List.length_map]; omega) ?_; intro v3 w3 ho3 hb3 hg3 hat3; rw [← HF.out] at ho3; have HO3 := Lib.hid ho3; have HB3 := Lib.hid (hbl.out.trans hb3); obtain ⟨A5, c5, eo⟩ := Kd.R_slice HO3.out; subst eo; have hq : (l.length : Int) ≤ (F.length : Int) := (by have := HFZ.out; omega); obtain ⟨i0, hi0, _, hsz_, _⟩ := info_parts infoLEntry; have hcut := cut_to (P := Tryd.prog) 25 75 .i64 Tryd.underlying25 hi0 A5 F.length c5 (l.length : Int) (by omega) hq (Kd.R_reads' HO3.out).2.1; replace hq := eq_true hq; clear ho3 hb3 hg3 hat3 hi0 hsz_)
      go_ret
      refine ⟨_, rfl, ⟨A5, c5, by simp, ?_⟩, HB3.out⟩
      show Kd.R _ _ _ _ _ (.slice A5 (l.map toLEntry ++ [markLEntry]).length c5) (l.map toLEntry ++ [markLEntry])
      rw [← HF.out]
      exact HO3.out

/-- A lent Field. -/
structure LField where
  f0 : ByteArray
  f1 : Int
  f2 : (List Int × List Int)
  f3 : Int
  f4 : Int
  f5 : Bool
  f6 : Bool
def kLField : Kd LField := Kd.iso (Kd.pair Kd.string (Kd.pair (Kd.int .i64) (Kd.pair (kview 3 (Kd.int .i64)) (Kd.pair (Kd.int .i64) (Kd.pair (Kd.int .i64) (Kd.pair Kd.bool Kd.bool)))))) (fun x : LField => (x.f0, x.f1, x.f2, x.f3, x.f4, x.f5, x.f6))
theorem kLField_mkM (w : World) (base : Nat) (ok : Nat → Prop) (x : LField) {u : Value} (g : (kview 3 (Kd.int .i64)).M w base ok x.f2 [u]) : kLField.M w base ok x [.string x.f0, .int .i64 x.f1, u, .int .i64 x.f3, .int .i64 x.f4, .bool x.f5, .bool x.f6] := ⟨[.string x.f0], [.int .i64 x.f1, u, .int .i64 x.f3, .int .i64 x.f4, .bool x.f5, .bool x.f6], rfl, rfl, ⟨[.int .i64 x.f1], [u, .int .i64 x.f3, .int .i64 x.f4, .bool x.f5, .bool x.f6], rfl, rfl, ⟨[u], [.int .i64 x.f3, .int .i64 x.f4, .bool x.f5, .bool x.f6], rfl, g, ⟨[.int .i64 x.f3], [.int .i64 x.f4, .bool x.f5, .bool x.f6], rfl, rfl, ⟨[.int .i64 x.f4], [.bool x.f5, .bool x.f6], rfl, rfl, ⟨[.bool x.f5], [.bool x.f6], rfl, rfl, rfl⟩⟩⟩⟩⟩⟩
def toLField (x : S66) : LField := ⟨x.f0, x.f1, (x.f2, [-7171]), x.f3, x.f4, x.f5, x.f6⟩
def markLField : LField := ⟨⟨#[109, 97, 114, 107]⟩, 0, ([], []), 0, 0, false, false⟩
theorem infoLField : (Tryd.prog.info? 66).map (fun i => (i.zero, i.size, i.bytes)) = some (some (.agg #[.string ⟨#[]⟩, .int .i64 0, .slice none 0 0, .int .i64 0, .int .i64 0, .bool false, .bool false]), 7, 72) := by kernel_rfl
theorem rd_dropField (l : List S66) (j : Nat) (h : j < l.length) : l.drop j = rd_T66 l (j : Int) :: l.drop (j + 1) := by
  rw [List.drop_eq_getElem_cons h]
  simp [rd_T66, h]
theorem rd_takeField (l : List S66) (j : Nat) (h : j < l.length) : (l.take (j + 1)).map toLField = (l.take j).map toLField ++ [toLField (rd_T66 l (j : Int))] := by
  rw [List.take_succ_eq_append_getElem h, List.map_append]
  simp [rd_T66, h]
theorem rd_memField (l : List S66) (j : Nat) (h : j < l.length) : rd_T66 l (j : Int) ∈ l := by
  simp [rd_T66, h]
set_option maxHeartbeats 1000000 in
set_option maxRecDepth 100000 in
theorem lentField_any (A : Option Addr) (c : Nat) (l : List S66) (w : World) (hr : Kd.C k66 w A l.length l) (hz : l.length < 1099511627776) (hzs : ∀ x ∈ l, x.f2.length < 17592186044000) :
    Calls Tryd.prog 8 #[.agg #[.slice A l.length c]] w fun e w' => ∃ v, e = .returned (.agg #[v]) ∧ (kview 66 kLField).M w' w.heap.size (fun k => w.heap.size ≤ k) (l.map toLField, [markLField]) [v] ∧ Below w.heap.size w w' := by
  have HR := Lib.hid hr
  have HZ := Lib.hid hz
  have HZS := Lib.hid hzs
  clear hr hz hzs
  go_enter Tryd.func8, Tryd.ntmps8
  go_wp2_with fail
  obtain ⟨W0, hW0⟩ : ∃ W0, W0 = (w.alloc (Obj.cells #[Value.slice A l.length c] 24)).alloc (Obj.cells #[Value.slice none 0 0] 24) := ⟨_, rfl⟩
  have hb0 : Below w.heap.size w W0 := by subst hW0; exact ((Below.refl _ w).alloc (Nat.le_refl _) _).alloc (by rw [World.size_alloc]; omega) _
  have hs0 : W0.heap[w.heap.size]? = some (.cells #[.slice A l.length c] 24 (0, 0)) := by subst hW0; exact blk_alloc (blk_new _ _) _
  have hs1 : W0.heap[w.heap.size + 1]? = some (.cells #[.slice none 0 0] 24 (0, 0)) := by subst hW0; have := blk_new (w.alloc (Obj.cells #[Value.slice A l.length c] 24)) (.cells #[.slice none 0 0] 24); rwa [World.size_alloc] at this
  rw [← hW0]
  clear hW0
  have hsz0 := blk_lt hs0
  have hsz1 := blk_lt hs1
  have HS0 := Lib.hid hs0
  have HS1 := Lib.hid hs1
  clear hs0 hs1
  go_loopg [3, 4] l.length (fun kq v3 v4 w' => ∃ i : Nat, v4 = .int .i64 (i : Int) ∧ Hid (i + kq = l.length) ∧ Hid (Kd.R kLField 66 w' W0.heap.size (fun k => W0.heap.size ≤ k) v3 ((l.take i).map toLField)) ∧ Hid (Below W0.heap.size W0 w'))
  case atStart => exact ⟨0, rfl, by show _ = _; omega, Kd.R_nil _ _ _ _ _, Below.refl _ _⟩
  case round =>
    obtain ⟨i, rfl, hi, ho, hbl⟩ := hrel
    have hi1 := hi.out
    have hni : (0 : Int) ≤ i := by omega
    have hwz := hbl.out.size
    have hzz := HZ.out
    have hsb := blk_below HS0.out hbl.out
    have hsc : wr.cell? ⟨w.heap.size, 0, none⟩ = some (.slice A l.length c) := (blk_cell hsb 0).trans rfl
    have hsl := blk_lt hsb
    have HSB := Lib.hid hsb
    clear hsb
    cases gk with
    | succ k =>
      have hia : i < l.length := by omega
      have hia' : (i : Int) < l.length := by omega
      obtain ⟨ad, A2, c2, eA, hx0, hx1, hx2, hx3, hx4, hx5, hx6, hl2, hi2⟩ := at_T66 HR.out i hni hia'
      subst eA
      rw [Int.toNat_natCast] at hx0 hx1 hx2 hx3 hx4 hx5 hx6
      have hbw : Below w.heap.size w wr := hb0.trans (hbl.out.mono hb0.size)
      have hadl : (ad.add (i * 7)).block < wr.heap.size := Nat.lt_of_lt_of_le (World.block_lt_of_cell? w _ hx0) hbw.size
      replace hx0 := (hbw.cell (World.block_lt_of_cell? w _ hx0)).trans hx0
      replace hx1 := (hbw.cell (World.block_lt_of_cell? w _ hx1)).trans hx1
      replace hx2 := (hbw.cell (World.block_lt_of_cell? w _ hx2)).trans hx2
      replace hx3 := (hbw.cell (World.block_lt_of_cell? w _ hx3)).trans hx3
      replace hx4 := (hbw.cell (World.block_lt_of_cell? w _ hx4)).trans hx4
      replace hx5 := (hbw.cell (World.block_lt_of_cell? w _ hx5)).trans hx5
      replace hx6 := (hbw.cell (World.block_lt_of_cell? w _ hx6)).trans hx6
      have HI := Lib.hid (Kd.C_below hi2 hbw)
      have HTK := Lib.hid (rd_takeField l i hia)
      have hmem := rd_memField l i hia
      have hzx := HZS.out _ hmem
      generalize rd_T66 l (i : Int) = x at *
      go_wp2_with fail
      refine (lentInts_any A2 c2 x.f2 _ (Kd.C_alloc HI.out _) hzx).mono ?_
      rintro e w2 ⟨v2, rfl, hv2, hb2⟩
      obtain ⟨A3, c3, ev, -⟩ := id hv2
      have ev2 : v2 = .slice A3 x.f2.length c3 := by simpa using ev
      subst ev2
      have hbx := blk_below (blk_new wr (.cells #[.string x.f0, .int .i64 x.f1, .slice A2 x.f2.length c2, .int .i64 x.f3, .int .i64 x.f4, .bool x.f5, .bool x.f6] 66)) hb2
      have hz2 : wr.heap.size < w2.heap.size := blk_lt hbx
      have hb0_ : w2.cell? ⟨wr.heap.size, 0, none⟩ = some (.string x.f0) := (blk_cell hbx 0).trans rfl
      have hb1_ : w2.cell? ⟨wr.heap.size, 1, none⟩ = some (.int .i64 x.f1) := (blk_cell hbx 1).trans rfl
      have hb2_ : w2.cell? ⟨wr.heap.size, 2, none⟩ = some (.slice A2 x.f2.length c2) := (blk_cell hbx 2).trans rfl
      have hb3_ : w2.cell? ⟨wr.heap.size, 3, none⟩ = some (.int .i64 x.f3) := (blk_cell hbx 3).trans rfl
      have hb4_ : w2.cell? ⟨wr.heap.size, 4, none⟩ = some (.int .i64 x.f4) := (blk_cell hbx 4).trans rfl
      have hb5_ : w2.cell? ⟨wr.heap.size, 5, none⟩ = some (.bool x.f5) := (blk_cell hbx 5).trans rfl
      have hb6_ : w2.cell? ⟨wr.heap.size, 6, none⟩ = some (.bool x.f6) := (blk_cell hbx 6).trans rfl
      have hbf_ : w2.frozen? ⟨wr.heap.size, 2, none⟩ = false := blk_frozen hbx 2
      have HO1 := Lib.hid (mine_set (mine_boxed ho.out hb2) 2 (.slice A3 x.f2.length c3))
      have HM1 := Lib.hid (made_set (w1 := wr) (base := W0.heap.size) hv2 (by rw [World.size_alloc]) (by rw [World.size_alloc]; omega) 2 (.slice A3 x.f2.length c3))
      have HB1 := Lib.hid (((hbl.out.alloc hwz _).trans (hb2.mono (by rw [World.size_alloc]; omega))).setCell (p := ⟨wr.heap.size, 2, none⟩) hwz (.slice A3 x.f2.length c3))
      clear hv2 hb2 ev
      go_wp2_with ((with_reducible refine gate_builtin (b := .append) (xs := #[.tmp 22, .tmp 24]) rfl ?_); at_builtin; refine Kd.R_append kLField (w0 := _) W0.heap.size rfl (.tmp 22) (.tmp 24) 22 66 (.agg #[.string ⟨#[]⟩, .int .i64 0, .slice none 0 0, .int .i64 0, .int .i64 0, .bool false, .bool false]) 72 rfl Tryd.underlying22 infoLField rfl (by decide) (by omega) u3 ((l.take i).map toLField) (toLField x) _ (fun k => W0.heap.size ≤ k) (fun k => wr.heap.size < k) rfl (by first | rfl | (rw [World.size_setCell]; rfl)) (kLField_mkM _ _ _ (toLField x) HM1.out) (fun k hk => ⟨by omega, fun he => by have := Kd.R_lt ho.out k he.symm; omega⟩) (fun k hk => Nat.le_trans HB1.out.size hk) (Kd.R_mono HO1.out (fun _ h => h.1)) (Below.refl _ _) HB1.out.size (by have := HZ.out; rw [List.length_map, List.length_take]; omega) ?_; intro v3 w3 ho3 hb3 hg3 hat3; rw [← HTK.out] at ho3; have HO3 := Lib.hid ho3; have HB3 := Lib.hid (HB1.out.trans hb3); clear ho3 hb3 hg3 hat3)
      go_roundg k
      case measure => omega
      case rel => exact ⟨i + 1, by go_num, by show i + 1 + k = l.length; omega, HO3, HB3⟩
    | zero =>
      have hi2 : i = l.length := by omega
      subst hi2
      rw [List.take_length] at ho
      obtain ⟨F, hF⟩ : ∃ F, F = l.map toLField ++ [markLField] := ⟨_, rfl⟩
      have hFz : F.length = l.length + 1 := by rw [hF]; simp
      have HF := Lib.hid hF
      have HFZ := Lib.hid hFz
      clear hF hFz
      go_wp2_with ((with_reducible refine gate_builtin (b := .append) (xs := #[.tmp 26, .tmp 28]) rfl ?_); at_builtin; refine Kd.R_append kLField (w0 := _) W0.heap.size rfl (.tmp 26) (.tmp 28) 22 66 (.agg #[.string ⟨#[]⟩, .int .i64 0, .slice none 0 0, .int .i64 0, .int .i64 0, .bool false, .bool false]) 72 rfl Tryd.underlying22 infoLField rfl (by decide) (by omega) u3 (l.map toLField) markLField _ (fun k => W0.heap.size ≤ k) (fun _ => False) rfl rfl (kLField_mkM _ _ _ markLField ⟨none, 0, rfl, Kd.R_nil _ _ _ _ _⟩) (fun _ hk => hk.elim) (fun k hk => Nat.le_trans hbl.out.size hk) ho.out (Below.refl _ _) hbl.out.size (by have := HZ.out; rw [List.length_map]; omega) ?_; intro v3 w3 ho3 hb3 hg3 hat3; rw [← HF.out] at ho3; have HO3 := Lib.hid ho3; have HB3 := Lib.hid (hbl.out.trans hb3); obtain ⟨A5, c5, eo⟩ := Kd.R_slice HO3.out; subst eo; have hq : (l.length : Int) ≤ (F.length : Int) := (by have := HFZ.out; omega); obtain ⟨i0, hi0, _, hsz_, _⟩ := info_parts infoLField; have hcut := cut_to (P := Tryd.prog) 22 66 .i64 Tryd.underlying22 hi0 A5 F.length c5 (l.length : Int) (by omega) hq (Kd.R_reads' HO3.out).2.1; replace hq := eq_true hq; have hrb := blk_below HS1.out HB3.out; have hr0 : w3.cell? ⟨w.heap.size + 1, 0, none⟩ = some (.slice none 0 0) := (blk_cell hrb 0).trans rfl; have hrf : w3.frozen? ⟨w.heap.size + 1, 0, none⟩ = false := blk_frozen hrb 0; have hsb3 := blk_below HS0.out HB3.out; have hsc3 : w3.cell? ⟨w.heap.size, 0, none⟩ = some (.slice A l.length c) := (blk_cell hsb3 0).trans rfl; clear hrb hsb3; clear ho3 hb3 hg3 hat3 hi0 hsz_)
      have HR5 := Kd.R_far (p := ⟨w.heap.size + 1, 0, none⟩) HO3.out (fun k (hk : W0.heap.size ≤ k) => by show k ≠ w.heap.size + 1; omega) (.slice A5 l.length c5)
      have HB5 := (hb0.trans (HB3.out.mono hb0.size)).setCell (p := ⟨w.heap.size + 1, 0, none⟩) (by show w.heap.size ≤ w.heap.size + 1; omega) (.slice A5 l.length c5)
      refine bodyPost_ret (results_cell_row rfl _ _ (w.heap.size + 1) 24 #[.slice A5 l.length c5] (0, 0) _ rfl (blk_put (blk_below HS1.out HB3.out) 0 _ rfl) Tryd.underlying24 rfl (by kernel_rfl)) rfl ?_
      refine ⟨.slice A5 l.length c5, rfl, ⟨A5, c5, by simp, ?_⟩, HB5⟩
      show Kd.R _ _ _ _ _ (.slice A5 (l.map toLField ++ [markLField]).length c5) (l.map toLField ++ [markLField])
      rw [← HF.out]
      exact Kd.R_lower (Kd.R_mono HR5 (fun k hk => Nat.le_trans hb0.size hk)) hb0.size

theorem lentDoc_any (A : Option Addr) (c : Nat) (l : List S75) (w : World) (hr : Kd.C k75 w A l.length l) (hz : l.length < 1099511627776) (hzs : ∀ x ∈ l, x.f2.length < 17592186044000) :
    Calls Tryd.prog 9 #[.agg #[.slice A l.length c]] w fun e w' => ∃ v, e = .returned (.agg #[v]) ∧ (kview 75 kLEntry).M w' w.heap.size (fun k => w.heap.size ≤ k) (l.map toLEntry, [markLEntry]) [v] ∧ Below w.heap.size w w' := by
  obtain ⟨W0, hW0⟩ : ∃ W0, W0 = (w.alloc (Obj.cells #[Value.slice A l.length c] 27)).alloc (Obj.cells #[Value.slice none 0 0] 27) := ⟨_, rfl⟩
  have hb0 : Below w.heap.size w W0 := by subst hW0; exact ((Below.refl _ w).alloc (Nat.le_refl _) _).alloc (by rw [World.size_alloc]; omega) _
  have hs1 : W0.heap[w.heap.size + 1]? = some (.cells #[.slice none 0 0] 27 (0, 0)) := by subst hW0; have := blk_new (w.alloc (Obj.cells #[Value.slice A l.length c] 27)) (.cells #[.slice none 0 0] 27); rwa [World.size_alloc] at this
  have H := Lib.hid (lentEntry_any A c l W0 (Kd.C_below hr hb0) hz hzs)
  have HS1 := Lib.hid hs1
  have hsz1 := blk_lt hs1
  have HB0 := Lib.hid hb0
  clear hr hz hzs hs1 hb0
  go_enter Tryd.func9, Tryd.ntmps9
  go_wp2_with fail
  rw [← hW0]
  clear hW0
  refine H.out.mono ?_
  rintro e w1 ⟨v, rfl, hv, hb⟩
  obtain ⟨A1, c1, ev, -⟩ := id hv
  have ev2 : v = .slice A1 l.length c1 := by simpa using ev
  subst ev2
  have hrb := blk_below HS1.out hb
  have hr0 : w1.cell? ⟨w.heap.size + 1, 0, none⟩ = some (.slice none 0 0) := (blk_cell hrb 0).trans rfl
  have hrf : w1.frozen? ⟨w.heap.size + 1, 0, none⟩ = false := blk_frozen hrb 0
  have HRB := Lib.hid hrb
  have HV := Lib.hid hv
  have HB1 := Lib.hid hb
  clear hv hb hrb ev
  go_wp2_with fail
  refine bodyPost_ret (results_cell_row rfl _ _ (w.heap.size + 1) 27 #[.slice A1 l.length c1] (0, 0) _ rfl (blk_put HRB.out 0 _ rfl) Tryd.underlying27 rfl (by kernel_rfl)) rfl ?_
  refine ⟨.slice A1 l.length c1, rfl, ?_, (HB0.out.trans (HB1.out.mono HB0.out.size)).setCell (p := ⟨w.heap.size + 1, 0, none⟩) (by show w.heap.size ≤ w.heap.size + 1; omega) _⟩
  exact (kview _ kLEntry).M_mono (fun k hk => Nat.le_trans HB0.out.size hk) ((kview _ kLEntry).M_lower HB0.out.size (Kd.M_far (p := ⟨w.heap.size + 1, 0, none⟩) HV.out (fun k (hk : W0.heap.size ≤ k) => by show k ≠ w.heap.size + 1; omega) _))
end Go.Proofs.YtfmholpbpghojaaDoor
