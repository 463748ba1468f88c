/- Lemmas for the walks of smpdu's Decode: the sizes of a kind, the box of the numbers to come, a PDU's cells one by one. No condition. -/
import Derived.Test.YtpomobeogkfmfaaDoorSec10
namespace Go.Proofs.YtpomobeogkfmfaaDoor
open Go.RowKit

theorem siz_ok {k : Int} (h : hasK k = true) : (sizK k).all szok = true ∧ ((offs (sizK k) (sizK k).length : Nat) : Int) = lenK k - 1 ∧ 0 < (sizK k).length ∧ (sizK k).length ≤ 3 := by
  rcases hasK_yes h with rfl | rfl | rfl | rfl | rfl | rfl | rfl | rfl | rfl
  all_goals exact ⟨by decide, by decide, by decide, by decide⟩
theorem take_form {w w' : World} {l : List UInt8} {sizes : List Int} {e : Ending} (h : TakePost w l sizes e w') :
    Below w.heap.size w w' ∧ ∃ X m xc A n c, e = .returned (.tuple #[.slice X m xc, .slice A n c, .int .i64 (takeE l sizes)]) ∧ (takeE l sizes = 0 → n = (l.drop (offs sizes sizes.length)).length ∧ w'.ownsRow w.heap.size 22 1 (.slice X m xc) sizes.length (nums (takeV l sizes sizes.length))) := by
  obtain ⟨hb, h0, h1⟩ := h
  refine ⟨hb, ?_⟩
  by_cases he : takeE l sizes = 0
  · obtain ⟨x, u, rfl, hx, hu, _⟩ := h0 he
    obtain ⟨A, c, rfl, _⟩ := Sl.of_own hu
    obtain ⟨X, xc, rfl, _⟩ := Sl.of_own hx
    exact ⟨X, _, xc, A, _, c, by rw [he], fun _ => ⟨rfl, hx⟩⟩
  · exact ⟨none, 0, 0, none, 0, 0, h1 he, fun h => absurd h he⟩
theorem nbox_own {w : World} {lo base bx n : Nat} {x u : Value} {l : List Nat} {e : TypeId} (hn : l.length = n) (ho : w.ownsRow base e 1 x n (nums l)) (hl : 0 < l.length) (h1 : lo ≤ bx) (h2 : bx < base) (hc : w.cell? ⟨bx, 0, none⟩ = some u) (hf : w.frozen? ⟨bx, 0, none⟩ = false) : NBox lo (w.setCell ⟨bx, 0, none⟩ x) bx l := by
  subst hn
  obtain ⟨g, c, rfl, hg1, hg2⟩ := own_addr ho hl
  obtain ⟨A', c', e1, hnc, hcm, _⟩ := Sl.of_own ho
  injection e1 with e1 e2 e3
  subst e3
  refine ⟨by simp [go_sem, hf], h1, g, 0, c, by simp [go_sem, hc], hnc, hcm, by omega, by omega, fun j y hy => ?_⟩
  rw [cell_set_ne _ (by show bx ≠ g; omega), Nat.zero_add]
  exact own_cell ho hy
theorem nbox_new {w : World} {lo base n : Nat} {x : Value} {l : List Nat} {e t : TypeId} (hn : l.length = n) (ho : w.ownsRow base e 1 x n (nums l)) (hl : 0 < l.length) (h1 : lo ≤ base) : NBox lo (w.alloc (.cells #[x] t)) w.heap.size l := by
  subst hn
  obtain ⟨g, c, rfl, hg1, hg2⟩ := own_addr ho hl
  obtain ⟨A', c', e1, hnc, hcm, _⟩ := Sl.of_own ho
  injection e1 with e1 e2 e3
  subst e3
  refine ⟨by simp [go_sem], by omega, g, 0, c, by simp [go_sem], hnc, hcm, by omega, by omega, fun j y hy => ?_⟩
  rw [World.cell?_alloc_lt _ _ _ (by show g < _; omega), Nat.zero_add]
  exact own_cell ho hy


/-- The cells of a box, as a list. -/
def LAt (w : World) (b : Nat) (cs : List Value) : Prop := ∀ j u, cs[j]? = some u → w.cell? ⟨b, j, none⟩ = some u
theorem LAt.set {w : World} {b : Nat} {cs : List Value} (h : LAt w b cs) {j : Nat} (hj : j < cs.length) (v : Value) : LAt (w.setCell ⟨b, j, none⟩ v) b (cs.set j v) := by
  intro i u hu
  by_cases e : j = i
  · subst e
    rw [List.getElem?_set_self hj] at hu
    rw [← hu]
    exact World.cell?_setCell_same _ _ _ (h j _ (List.getElem?_eq_getElem hj))
  · rw [List.getElem?_set_ne e] at hu
    rw [World.cell?_setCell_other _ _ _ _ (by simp only [ne_eq, Addr.mk.injEq]; omega)]
    exact h i u hu
theorem sec_io {w : World} {b : Nat} {p : Sec} (h : SecAt w b p) (v : Int) : SecAt (w.setCell ⟨b, 1, none⟩ (.int .i64 v)) b { p with io := v } := LAt.set (cs := (secV p).cells.toList) h (j := 1) (show (1 : Nat) < 13 by decide) _
theorem sec_oob {w : World} {b : Nat} {p : Sec} (h : SecAt w b p) (v : Bool) : SecAt (w.setCell ⟨b, 2, none⟩ (.bool v)) b { p with oob := v } := LAt.set (cs := (secV p).cells.toList) h (j := 2) (show (2 : Nat) < 13 by decide) _
theorem sec_bond {w : World} {b : Nat} {p : Sec} (h : SecAt w b p) (v : Bool) : SecAt (w.setCell ⟨b, 3, none⟩ (.bool v)) b { p with bond := v } := LAt.set (cs := (secV p).cells.toList) h (j := 3) (show (3 : Nat) < 13 by decide) _
theorem sec_mitm {w : World} {b : Nat} {p : Sec} (h : SecAt w b p) (v : Bool) : SecAt (w.setCell ⟨b, 4, none⟩ (.bool v)) b { p with mitm := v } := LAt.set (cs := (secV p).cells.toList) h (j := 4) (show (4 : Nat) < 13 by decide) _
theorem sec_send {w : World} {b : Nat} {p : Sec} (h : SecAt w b p) (v : Bool) : SecAt (w.setCell ⟨b, 5, none⟩ (.bool v)) b { p with send := v } := LAt.set (cs := (secV p).cells.toList) h (j := 5) (show (5 : Nat) < 13 by decide) _
theorem sec_take {w : World} {b : Nat} {p : Sec} (h : SecAt w b p) (v : Bool) : SecAt (w.setCell ⟨b, 6, none⟩ (.bool v)) b { p with take := v } := LAt.set (cs := (secV p).cells.toList) h (j := 6) (show (6 : Nat) < 13 by decide) _
theorem sec_pub {w : World} {b : Nat} {p : Sec} (h : SecAt w b p) (v : Nat) : SecAt (w.setCell ⟨b, 7, none⟩ (.int .u32 (v : Int))) b { p with pub := v } := LAt.set (cs := (secV p).cells.toList) h (j := 7) (show (7 : Nat) < 13 by decide) _
theorem sec_val {w : World} {b : Nat} {p : Sec} (h : SecAt w b p) (v : Nat) : SecAt (w.setCell ⟨b, 8, none⟩ (.int .u64 (v : Int))) b { p with val := v } := LAt.set (cs := (secV p).cells.toList) h (j := 8) (show (8 : Nat) < 13 by decide) _
theorem sec_ak {w : World} {b : Nat} {p : Sec} (h : SecAt w b p) (v : Int) : SecAt (w.setCell ⟨b, 9, none⟩ (.int .i64 v)) b { p with ak := v } := LAt.set (cs := (secV p).cells.toList) h (j := 9) (show (9 : Nat) < 13 by decide) _
theorem sec_ax {w : World} {b : Nat} {p : Sec} (h : SecAt w b p) (v : Nat) : SecAt (w.setCell ⟨b, 10, none⟩ (.int .u64 (v : Int))) b { p with ax := v } := LAt.set (cs := (secV p).cells.toList) h (j := 10) (show (10 : Nat) < 13 by decide) _
theorem sec_irk {w : World} {b : Nat} {p : Sec} (h : SecAt w b p) (v : Nat) : SecAt (w.setCell ⟨b, 11, none⟩ (.int .u64 (v : Int))) b { p with irk := v } := LAt.set (cs := (secV p).cells.toList) h (j := 11) (show (11 : Nat) < 13 by decide) _
theorem sec_rsn {w : World} {b : Nat} {p : Sec} (h : SecAt w b p) (v : Int) : SecAt (w.setCell ⟨b, 12, none⟩ (.int .i64 v)) b { p with rsn := v } := LAt.set (cs := (secV p).cells.toList) h (j := 12) (show (12 : Nat) < 13 by decide) _
theorem sec_feat {w : World} {b : Nat} {p : Sec} (h : SecAt w b p) (i : Int) (o b' m s t : Bool) :
    SecAt ((((((w.setCell ⟨b, 1, none⟩ (.int .i64 i)).setCell ⟨b, 2, none⟩ (.bool o)).setCell ⟨b, 3, none⟩ (.bool b')).setCell ⟨b, 4, none⟩ (.bool m)).setCell ⟨b, 5, none⟩ (.bool s)).setCell ⟨b, 6, none⟩ (.bool t)) b { p with io := i, oob := o, bond := b', mitm := m, send := s, take := t } :=
  sec_take (sec_send (sec_mitm (sec_bond (sec_oob (sec_io h i) o) b') m) s) t
theorem Froz.set {w : World} {b : Nat} (h : Froz w b) (p : Addr) (v : Value) : Froz (w.setCell p v) b := fun j hj => (World.frozen?_setCell w p _ v).trans (h j hj)
theorem SecAt.far {w : World} {b : Nat} {p : Sec} (h : SecAt w b p) {q : Addr} (hq : q.block ≠ b) (v : Value) : SecAt (w.setCell q v) b p := fun j u hu => (cell_set_ne v hq).trans (h j u hu)
theorem bits_6 : ∀ n : Fin 7, n.val % 2 = 0 → bitN n.val 0 = false ∧ bitN n.val 3 = false ∧ bitN n.val 4 = false := by decide +kernel
theorem nB_lt (l : List UInt8) (i : Nat) : nB l i < 256 := (l.getD i 0).toNat_lt
theorem leVal_one (a : UInt8) : leVal [a] = a.toNat := by simp [leVal]

end Go.Proofs.YtpomobeogkfmfaaDoor
