/- What every row of this seat shares: the table's cells out of the row's list, a world for the witness, features by value. No condition. -/
import Derived.Test.YtjnjafkfemaaeaaDoorW1
import Derived.Test.YtjnjafkfemaaeaaDoorCards
import Derived.Test.YtjnjafkfemaaeaaDoorTie
namespace Go.Proofs.YtjnjafkfemaaeaaDoor
open Go.RowKit Go.ChangeShapes Go.WideShapes Go.ChangeAt Go.Deep

theorem own : ownKnob Tryd.prog.godebug = none := by kernel_rfl
theorem laidOut : laidOutB Tryd.prog = true := by kernel_rfl
theorem gTab : Tryd.prog.globalNamed "wireless/method.table" = some 0 := by kernel_rfl
theorem gTabType : (Tryd.prog.globals[0]?).map (·.type) = some 34 := by kernel_rfl
theorem cells23 : Tryd.prog.cellsOf 23 = 6 := by kernel_rfl

def tabRows : List (List Int) := [[1, 1, 3, 1, 3], [1, 2, 3, 1, 2], [4, 4, 5, 1, 4], [1, 1, 1, 1, 1], [4, 2, 3, 1, 2]]
theorem tab_rows : ∀ i j : Nat, i < 5 → j < 5 → (tabRows.getD i []).getD j 0 = tab i j := by
  intro i j hi hj
  match i, hi with
  | 0, _ => (match j, hj with | 0, _ => rfl | 1, _ => rfl | 2, _ => rfl | 3, _ => rfl | 4, _ => rfl)
  | 1, _ => (match j, hj with | 0, _ => rfl | 1, _ => rfl | 2, _ => rfl | 3, _ => rfl | 4, _ => rfl)
  | 2, _ => (match j, hj with | 0, _ => rfl | 1, _ => rfl | 2, _ => rfl | 3, _ => rfl | 4, _ => rfl)
  | 3, _ => (match j, hj with | 0, _ => rfl | 1, _ => rfl | 2, _ => rfl | 3, _ => rfl | 4, _ => rfl)
  | 4, _ => (match j, hj with | 0, _ => rfl | 1, _ => rfl | 2, _ => rfl | 3, _ => rfl | 4, _ => rfl)

/-- What the rows' list gives: the table's cells. -/
theorem tab_of_laid {W : World} (h : laidMetH Tryd.prog [("wireless/method.table", Rows.laid_wireless_method_table)] W) : Tab W := by
  obtain ⟨ps, ⟨g, t, cs, fuel, p, q, hg, ht, hvar, hd, _, _⟩, _⟩ := h
  obtain rfl := Option.some.inj (gTab.symm.trans hg)
  obtain rfl := Option.some.inj (gTabType.symm.trans ht)
  have hc := cells_of_tab2 (rows := tabRows) (k := .i64) Tryd.underlying34 Tryd.underlying33 Tryd.underlying3 (by kernel_rfl) (by kernel_rfl) hd
  have hcell : ∀ k v, cs[k]? = some v → W.cell? ⟨0, k, none⟩ = some v := by
    intro k v hk
    have := World.var?_cell gTab hvar k
    rw [this, hk]
  refine ⟨?_, fun i j hi hj => ?_⟩
  · have h1 := hcell _ _ (by simpa using hc 0 0 (by omega) (by omega))
    rcases Nat.lt_or_ge 0 W.heap.size with h | h
    · exact h
    · simp [World.cell?, Array.getElem?_eq_none h] at h1
  · have h1 := hc i j hi hj
    rw [tab_rows i j hi hj] at h1
    exact hcell _ _ (by simpa using h1)

/-- Features by value. -/
theorem open_feat {H : Type} {enc : TypeId × Value → H} {w : World} {base : Nat} {spare : Nat → Bool} {held : Bool} {r : Reach} {b0 : Nat} {v : Value} {d : DataW H} {p : List MemPlace}
    (hv : Value.okWide Tryd.prog w r b0 23 v) (h : DataW.Trod enc Tryd.prog w base spare held 23 v d p) : ∃ io o b m s t, v = feat io o b m s t := by
  obtain ⟨cs, ys, n, rfl, hsz, _, _, _, hf⟩ := open_struct Tryd.underlying23 (by kernel_rfl) cells23 hv h
  obtain ⟨c0, y0, h0, _, k0⟩ := hf 0 _ rfl
  obtain ⟨c1, y1, h1, _, k1⟩ := hf 1 _ rfl
  obtain ⟨c2, y2, h2, _, k2⟩ := hf 2 _ rfl
  obtain ⟨c3, y3, h3, _, k3⟩ := hf 3 _ rfl
  obtain ⟨c4, y4, h4, _, k4⟩ := hf 4 _ rfl
  obtain ⟨c5, y5, h5, _, k5⟩ := hf 5 _ rfl
  obtain ⟨io, e0, _, _⟩ := DataW.trod_int Tryd.underlying3 k0
  obtain ⟨o, e1, _⟩ := DataW.trod_bool Tryd.underlying4 k1
  obtain ⟨b, e2, _⟩ := DataW.trod_bool Tryd.underlying4 k2
  obtain ⟨m, e3, _⟩ := DataW.trod_bool Tryd.underlying4 k3
  obtain ⟨s, e4, _⟩ := DataW.trod_bool Tryd.underlying4 k4
  obtain ⟨t, e5, _⟩ := DataW.trod_bool Tryd.underlying4 k5
  simp only [List.cons.injEq, and_true] at e0 e1 e2 e3 e4 e5
  subst e0 e1 e2 e3 e4 e5
  refine ⟨io, o, b, m, s, t, ?_⟩
  have e : cs = #[.int .i64 io, .bool o, .bool b, .bool m, .bool s, .bool t] := by
    apply Array.ext_getElem?
    intro j
    match j with
    | 0 => simpa using h0
    | 1 => simpa using h1
    | 2 => simpa using h2
    | 3 => simpa using h3
    | 4 => simpa using h4
    | 5 => simpa using h5
    | j + 6 => rw [Array.getElem?_eq_none (by rw [hsz]; simp), Array.getElem?_eq_none (by simp)]
  rw [e]

/-- A world for the witness: the settled one, the table (block 0) holding what its initialiser lays. -/
noncomputable def laidWorld (os : Os) : World :=
  { World.holding Tryd.prog os ⟨#[], #[], []⟩ with heap := (World.holding Tryd.prog os ⟨#[], #[], []⟩).heap.modify 0 fun
      | .cells _ t frozen => .cells (tabL.map (Value.int .i64)).toArray t frozen
      | o => o }
end Go.Proofs.YtjnjafkfemaaeaaDoor
