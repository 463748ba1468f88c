/- What every row of this seat shares: the tables' cells out of the rows' list, a world for the witness, an address by value. No condition. -/
import Derived.Test.YtpomobeogkfmfaaDoorAdr1
import Derived.Test.YtpomobeogkfmfaaDoorOpen
import Derived.Test.YtpomobeogkfmfaaDoorWords
import Derived.Test.YtpomobeogkfmfaaDoorCards
import Derived.Test.YtpomobeogkfmfaaDoorTie
namespace Go.Proofs.YtpomobeogkfmfaaDoor
open Go.RowKit Go.ChangeShapes Go.WideShapes Go.ChangeAt Go.Deep

theorem own : ownKnob Tryd.prog.godebug = none := by kernel_rfl
theorem laidOut : laidOutB Tryd.prog = true := by kernel_rfl
theorem gPre : Tryd.prog.globalNamed "wireless/address.prefixes" = some 0 := by kernel_rfl
theorem gPreType : (Tryd.prog.globals[0]?).map (·.type) = some 62 := by kernel_rfl
theorem gLet : Tryd.prog.globalNamed "wireless/address.letters" = some 1 := by kernel_rfl
theorem gLetType : (Tryd.prog.globals[1]?).map (·.type) = some 66 := by kernel_rfl

def preRows : List Int := [0, 0, 3, 1, 0]
def letRows : List Int := [0, 112, 115, 114, 97]
theorem pre_rows : ∀ i : Nat, i < 5 → preRows[i]? = some (preN i : Int) := by
  intro i hi
  match i, hi with
  | 0, _ => rfl | 1, _ => rfl | 2, _ => rfl | 3, _ => rfl | 4, _ => rfl
theorem let_rows : ∀ i : Nat, i < 5 → letRows[i]? = some (letN i : Int) := by
  intro i hi
  match i, hi with
  | 0, _ => rfl | 1, _ => rfl | 2, _ => rfl | 3, _ => rfl | 4, _ => rfl

theorem size_of_cell {w : World} {b o : Nat} {v : Value} (h : w.cell? ⟨b, o, none⟩ = some v) : b < w.heap.size := by
  rcases Nat.lt_or_ge b w.heap.size with hb | hb
  · exact hb
  · simp [World.cell?, Array.getElem?_eq_none hb] at h

/-- What the rows' list gives: the tables' cells. -/
theorem pre_of_vars {W : World} {r : List (String × DataW Unit)} {ps : List MemPlace} (h : DataW.LaidVars Tryd.prog W (("wireless/address.prefixes", Rows.laid_wireless_address_prefixes) :: r) ps) : PTab W := by
  obtain ⟨g, t, cs, fuel, p, q, hg, ht, hvar, hd, _, _⟩ := h
  obtain rfl := Option.some.inj (gPre.symm.trans hg)
  obtain rfl := Option.some.inj (gPreType.symm.trans ht)
  have hc := Lib.cells_of_tab (zs := preRows) (k := .u64) Tryd.underlying62 Tryd.underlying22 (by kernel_rfl) (by kernel_rfl) hd
  have hcell : ∀ k, k < 5 → W.cell? ⟨0, k, none⟩ = some (.int .u64 (preN k : Nat)) := by
    intro k hk
    have h1 := World.var?_cell gPre hvar k
    rw [h1, ← Array.getElem?_toList, hc, List.getElem?_map, pre_rows k hk]
    rfl
  exact ⟨size_of_cell (hcell 0 (by omega)), hcell⟩
theorem pre_of_laid {W : World} (h : laidMetH Tryd.prog [("wireless/address.prefixes", Rows.laid_wireless_address_prefixes)] W) : PTab W := by
  obtain ⟨ps, h1, _⟩ := h
  exact pre_of_vars h1
theorem tabs_of_laid {W : World} (h : laidMetH Tryd.prog [("wireless/address.letters", Rows.laid_wireless_address_letters), ("wireless/address.prefixes", Rows.laid_wireless_address_prefixes)] W) : ATab W := by
  obtain ⟨ps, ⟨g, t, cs, fuel, p, q, hg, ht, hvar, hd, h2, _⟩, _⟩ := h
  have hp := pre_of_vars h2
  obtain rfl := Option.some.inj (gLet.symm.trans hg)
  obtain rfl := Option.some.inj (gLetType.symm.trans ht)
  have hc := Lib.cells_of_tab (zs := letRows) (k := .u8) Tryd.underlying66 Tryd.underlying5 (by kernel_rfl) (by kernel_rfl) hd
  have hcell : ∀ k, k < 5 → W.cell? ⟨1, k, none⟩ = some (.int .u8 (letN k : Nat)) := by
    intro k hk
    have h1 := World.var?_cell gLet hvar k
    rw [h1, ← Array.getElem?_toList, hc, List.getElem?_map, let_rows k hk]
    rfl
  exact ⟨size_of_cell (hcell 0 (by omega)), fun i hi => ⟨hp.2 i hi, hcell i hi⟩⟩

/-- An address by value. -/
theorem open_adr {H : Type} {enc : TypeId × Value → H} {w : World} {base : Nat} {spare : Nat → Bool} {held : Bool} {r : Reach} {b0 : Nat} {v : Value} {d : DataW H} {p : List MemPlace}
    (hv : Value.okWide Tryd.prog w r b0 24 v) (h : DataW.Trod enc Tryd.prog w base spare held 24 v d p) : ∃ (k : Int) (x : Nat), v = adr k x ∧ x < 18446744073709551616 := by
  obtain ⟨cs, ys, n, rfl, hsz, _, _, _, hf⟩ := open_struct Tryd.underlying24 (by kernel_rfl) (by kernel_rfl) hv h
  obtain ⟨c0, y0, h0, _, k0⟩ := hf 0 _ rfl
  obtain ⟨c1, y1, h1, _, k1⟩ := hf 1 _ rfl
  obtain ⟨k, e0, _, _⟩ := DataW.trod_int Tryd.underlying3 k0
  obtain ⟨x, e1, _, hw⟩ := DataW.trod_int Tryd.underlying22 k1
  simp only [List.cons.injEq, and_true] at e0 e1
  subst e0 e1
  have hx : 0 ≤ x ∧ x ≤ 18446744073709551615 := by simpa [Lit.wf, IntKind.min, IntKind.max, IntKind.signed, IntKind.bits] using hw
  refine ⟨k, x.toNat, ?_, by omega⟩
  have e : cs = #[.int .i64 k, .int .u64 x] := by
    apply Array.ext_getElem?
    intro j
    match j with
    | 0 => simpa using h0
    | 1 => simpa using h1
    | j + 2 => rw [Array.getElem?_eq_none (by rw [hsz]; simp), Array.getElem?_eq_none (by simp)]
  rw [e]
  show _ = Value.agg #[.int .i64 k, .int .u64 ((x.toNat : Nat) : Int)]
  rw [show ((x.toNat : Nat) : Int) = x by omega]

theorem open_u64 {H : Type} {enc : TypeId × Value → H} {w : World} {base : Nat} {spare : Nat → Bool} {held : Bool} {r : Reach} {b0 : Nat} {v : Value} {d : DataW H} {p : List MemPlace}
    (hv : Value.okWide Tryd.prog w r b0 22 v) (h : DataW.Trod enc Tryd.prog w base spare held 22 v d p) : ∃ x : Nat, v = .int .u64 (x : Int) ∧ x < 18446744073709551616 := by
  obtain ⟨x, rfl, _, _, hw⟩ := open_int Tryd.underlying22 hv h
  have hx : 0 ≤ x ∧ x ≤ 18446744073709551615 := by simpa [Lit.wf, IntKind.min, IntKind.max, IntKind.signed, IntKind.bits] using hw
  exact ⟨x.toNat, by rw [show ((x.toNat : Nat) : Int) = x by omega], by omega⟩
/-- A world for the witness: the settled one, the tables holding what their initialisers lay. -/
def layTab (vs : List Value) : Obj → Obj
  | .cells _ t frozen => .cells vs.toArray t frozen
  | o => o
noncomputable def laidWorld (os : Os) : World :=
  { World.holding Tryd.prog os ⟨#[], #[], []⟩ with heap := ((World.holding Tryd.prog os ⟨#[], #[], []⟩).heap.modify 0 (layTab (preRows.map (Value.int .u64)))).modify 1 (layTab (letRows.map (Value.int .u8))) }
end Go.Proofs.YtpomobeogkfmfaaDoor
