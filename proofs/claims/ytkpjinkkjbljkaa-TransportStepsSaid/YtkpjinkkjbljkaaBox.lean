/- A block of cells (a variable that holds a struct, a row that was just laid), whole: what its cells hold, through calls, stores and appends. No condition. -/
import Derived.Test.YtkpjinkkjbljkaaApart
import Derived.Laws.IdiomCopy
namespace Go.Proofs.Ytkpjinkkjbljkaa
open Go.RowKit

/-- Block b holds these cells, and they may be written. -/
def Box (w : World) (b : Nat) (cs : List Value) : Prop := ∃ t, w.heap[b]? = some (.cells cs.toArray t (0, 0))
section
variable {w w' : World} {b B : Nat} {cs ds : List Value}
theorem Box.new (w : World) (cs : Array Value) (t : TypeId) : Box (w.alloc (.cells cs t)) w.heap.size cs.toList := ⟨t, by rw [heap_alloc_new]⟩
theorem Box.cell (h : Box w b cs) {j : Nat} {u : Value} (hj : cs[j]? = some u) : w.cell? ⟨b, j, none⟩ = some u := by
  obtain ⟨t, h⟩ := h
  rw [cell_of_row _ _ _ _ t (0, 0) h]
  simpa using hj
theorem Box.free (h : Box w b cs) (j : Nat) : w.frozen? ⟨b, j, none⟩ = false := by
  obtain ⟨t, h⟩ := h
  simp [World.frozen?, h]
theorem Box.lt (h : Box w b cs) : b < w.heap.size := by
  obtain ⟨t, h⟩ := h
  rcases Nat.lt_or_ge b w.heap.size with hb | hb
  · exact hb
  · rw [Array.getElem?_eq_none hb] at h; cases h
theorem Box.keep (h : Box w b cs) (hb : Below B w w') (hB : b < B) : Box w' b cs := by
  obtain ⟨t, h⟩ := h
  exact ⟨t, by rw [hb.block b hB]; exact h⟩
theorem Box.on (h : Box w b cs) (hb : Below w.heap.size w w') : Box w' b cs := h.keep hb h.lt
theorem Box.alloc (h : Box w b cs) (o : Obj) : Box (w.alloc o) b cs := h.on (al1 w o)
theorem Box.drew (h : Box w b cs) : Box w.drew b cs := h
theorem Box.grown {row : Option Nat} (h : Box w b cs) (hg : w.grownBy w' row) (hne : some b ≠ row) : Box w' b cs := by
  have hlt := h.lt
  obtain ⟨t, h⟩ := h
  exact ⟨t, by rw [hg.block b hlt hne]; exact h⟩
theorem Box.far (h : Box w b cs) {p : Addr} (hp : b ≠ p.block) (u : Value) : Box (w.setCell p u) b cs := by
  obtain ⟨t, h⟩ := h
  exact ⟨t, by rw [heap_setCell_other _ _ _ _ hp]; exact h⟩
theorem Box.set (h : Box w b cs) (j : Nat) (u : Value) : Box (w.setCell ⟨b, j, none⟩ u) b (cs.set j u) := by
  obtain ⟨t, h⟩ := h
  exact ⟨t, by rw [heap_setCell_same _ _ _ _ _ _ h]; simp⟩
theorem setCells_append (w : World) (b o : Nat) (xs ys : List Value) : w.setCells b o (xs ++ ys) = (w.setCells b o xs).setCells b (o + xs.length) ys := by
  induction xs generalizing w o with
  | nil => simp [World.setCells]
  | cons x xs ih =>
    show (w.setCell _ x).setCells b (o + 1) (xs ++ ys) = _
    rw [ih]
    show _ = ((w.setCell _ x).setCells b (o + 1) xs).setCells b (o + (xs.length + 1)) ys
    rw [show o + 1 + xs.length = o + (xs.length + 1) by omega]
theorem Box.puts (h : Box w b cs) (o : Nat) (ds : List Value) : Box (w.setCells b o ds) b (cs.take o ++ ds.take (cs.length - o) ++ cs.drop (o + ds.length)) := by
  induction ds generalizing w o cs with
  | nil => simpa [World.setCells] using h
  | cons d ds ih =>
    show Box ((w.setCell _ d).setCells b (o + 1) ds) b _
    have h1 := ih (h.set o d) (o + 1)
    rcases Nat.lt_or_ge o cs.length with ho | ho
    · have e : (cs.set o d).take (o + 1) ++ ds.take ((cs.set o d).length - (o + 1)) ++ (cs.set o d).drop (o + 1 + ds.length) = cs.take o ++ (d :: ds).take (cs.length - o) ++ cs.drop (o + (d :: ds).length) := by
        rw [List.take_set, List.take_succ_eq_append_getElem ho, List.length_set, List.drop_set_of_lt (by omega)]
        have e2 : (List.take o cs ++ [cs[o]]).set o d = List.take o cs ++ [d] := by
          rw [List.set_append_right _ _ (by rw [List.length_take]; omega)]
          simp [List.length_take, Nat.min_eq_left (Nat.le_of_lt ho)]
        rw [e2, show cs.length - o = (cs.length - (o + 1)) + 1 by omega, List.take_succ_cons, List.length_cons, show o + 1 + ds.length = o + (ds.length + 1) by omega]
        simp
      rwa [e] at h1
    · rw [List.set_eq_of_length_le ho] at h1
      have e : cs.take (o + 1) ++ ds.take (cs.length - (o + 1)) ++ cs.drop (o + 1 + ds.length) = cs.take o ++ (d :: ds).take (cs.length - o) ++ cs.drop (o + (d :: ds).length) := by
        rw [List.take_of_length_le (by omega), List.take_of_length_le (show cs.length ≤ o by omega), show cs.length - (o + 1) = 0 by omega, show cs.length - o = 0 by omega, List.drop_eq_nil_of_le (by omega), List.drop_eq_nil_of_le (by simp; omega)]
        simp
      rwa [e] at h1
/-- A struct stored into its box, all cells. -/
theorem Box.put (h : Box w b cs) (ds : List Value) (hl : ds.length = cs.length) : Box (w.setCells b 0 ds) b ds := by
  have h1 := h.puts 0 ds
  rwa [List.take_zero, List.nil_append, Nat.sub_zero, List.take_of_length_le (by omega), List.drop_eq_nil_of_le (by omega), List.append_nil] at h1
theorem Box.puts_far (h : Box w b cs) {b' : Nat} (hne : b ≠ b') (o : Nat) (ds : List Value) : Box (w.setCells b' o ds) b cs := by
  induction ds generalizing w o with
  | nil => exact h
  | cons d ds ih => exact ih (h.far (p := ⟨b', o, none⟩) hne d) (o + 1)
theorem below_puts {a : World} (hb : B ≤ b) (o : Nat) (ds : List Value) (h : Below B a w) : Below B a (w.setCells b o ds) := by
  induction ds generalizing w o with
  | nil => exact h
  | cons d ds ih => exact ih _ (h.setCell (p := ⟨b, o, none⟩) hb d)
theorem size_puts (w : World) (b o : Nat) (ds : List Value) : (w.setCells b o ds).heap.size = w.heap.size := by
  induction ds generalizing w o with
  | nil => rfl
  | cons d ds ih => show ((w.setCell _ d).setCells b (o + 1) ds).heap.size = _; rw [ih]; simp
theorem own_puts {base n size : Nat} {e : TypeId} {v : Value} {xs : List Value} (h : w.ownsRow base e size v n xs) (hb : ∀ g, v.ownBlock = some g → g ≠ b) (o : Nat) (ds : List Value) : (w.setCells b o ds).ownsRow base e size v n xs := by
  induction ds generalizing w o with
  | nil => exact h
  | cons d ds ih =>
    refine ih ?_ _
    obtain ⟨h1, h2⟩ := h
    refine ⟨h1, ?_⟩
    rcases h2 with h2 | ⟨g, cap, cur, hv, hg, hh, r⟩
    · exact .inl h2
    · refine .inr ⟨g, cap, cur, hv, hg, ?_, r⟩
      rw [heap_setCell_other _ _ _ _ (hb g (by rw [hv]; rfl))]
      exact hh
end
end Go.Proofs.Ytkpjinkkjbljkaa
