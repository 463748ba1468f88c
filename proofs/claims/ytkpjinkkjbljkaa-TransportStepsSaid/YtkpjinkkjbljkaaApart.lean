/- Rows of the call's own that lie in blocks of their own, side by side. No condition. -/
import Derived.Test.YtkpjinkkjbljkaaMem3
namespace Go.Proofs.Ytkpjinkkjbljkaa
open Go.RowKit

/-- A row of another block stays through an append. -/
theorem own_apart {w w' : World} {row : Option Nat} {base : Nat} {e : TypeId} {size n : Nat} {v : Value} {xs : List Value} (h : w.ownsRow base e size v n xs) (hg : w.grownBy w' row) (hne : ∀ g, v.ownBlock = some g → some g ≠ row) : w'.ownsRow base e size v n xs := by
  obtain ⟨h1, h2⟩ := h
  refine ⟨h1, ?_⟩
  rcases h2 with h2 | ⟨g, cap, cur, hv, hgb, hh, r⟩
  · exact .inl h2
  · refine .inr ⟨g, cap, cur, hv, hgb, ?_, r⟩
    have hlt : g < w.heap.size := by
      rcases Nat.lt_or_ge g w.heap.size with h | h
      · exact h
      · rw [Array.getElem?_eq_none h] at hh; cases hh
    rw [hg.block g hlt (hne g (by rw [hv]; rfl))]; exact hh
/-- Two rows lie in blocks of their own. -/
def Apart (v u : Value) : Prop := ∀ g, v.ownBlock = some g → u.ownBlock ≠ some g
theorem Apart.left {w : World} {v v' u : Value} {base : Nat} {e : TypeId} {size n : Nat} {xs : List Value} (h : Apart v u) (hu : w.ownsRow base e size u n xs) (hat : v'.ownBlock = v.ownBlock ∨ v'.ownBlock = some w.heap.size) : Apart v' u := by
  intro g hg hug
  rcases hat with hat | hat
  · rw [hat] at hg; exact h g hg hug
  · rw [hat] at hg
    have h1 := (hu.lt g hug).2
    have h2 := Option.some.inj hg
    omega
theorem Apart.symm {v u : Value} (h : Apart v u) : Apart u v := fun g hg hu => h g hu hg
/-- A row that was laid behind block B is apart from one before it. -/
theorem Apart.of_base {w w' : World} {v u : Value} {base base' : Nat} {e e' : TypeId} {size n size' n' : Nat} {xs ys : List Value} (hv : w.ownsRow base e size v n xs) (hu : w'.ownsRow base' e' size' u n' ys) (hB : w.heap.size ≤ base') : Apart v u := by
  intro g h1 h2
  have h3 := (hv.lt g h1).2
  have h4 := (hu.lt g h2).1
  omega
theorem Apart.row {v u : Value} (h : Apart v u) : ∀ g, u.ownBlock = some g → some g ≠ v.ownBlock := fun g hu hv => h g hv.symm hu
/-- The address of a row that is not empty. -/
theorem own_addr {w : World} {base : Nat} {e : TypeId} {size n : Nat} {v : Value} {xs : List Value} (h : w.ownsRow base e size v n xs) (hn : 0 < n) : ∃ g c, v = .slice (some ⟨g, 0, none⟩) n c ∧ base ≤ g ∧ g < w.heap.size := by
  rcases id h.2 with ⟨rfl, h2⟩ | ⟨g, cap, cur, rfl, _⟩
  · omega
  · exact ⟨g, cap, rfl, (h.lt g rfl).1, (h.lt g rfl).2⟩
theorem own_numlit (w : World) (cs : Array Value) (t : TypeId) (n : Nat) (hn : cs.size = n) (hm : n ≤ maxLen) : (w.alloc (.cells cs t)).ownsRow w.heap.size t 1 (.slice (some ⟨w.heap.size, 0, none⟩) n n) n cs.toList :=
  World.ownsRow_lit (base := w.heap.size) (e := t) (size := 1) w cs n (Nat.le_refl _) hm (by simpa using hn)
theorem blow {B : Nat} {W w1 : World} (hb : Below B W w1) : ∀ b o, b < B → w1.cell? ⟨b, o, none⟩ = W.cell? ⟨b, o, none⟩ := fun b o h => hb.cell (p := ⟨b, o, none⟩) h
theorem blowf {B : Nat} {W w1 : World} (hb : Below B W w1) : ∀ b o, b < B → w1.frozen? ⟨b, o, none⟩ = W.frozen? ⟨b, o, none⟩ := fun b o h => hb.frozen (p := ⟨b, o, none⟩) h
theorem own_cell {w : World} {base : Nat} {e : TypeId} {size n g c : Nat} {xs : List Value} (h : w.ownsRow base e size (.slice (some ⟨g, 0, none⟩) n c) n xs) {k : Nat} {u : Value} (hk : xs[k]? = some u) : w.cell? ⟨g, k, none⟩ = some u := by
  have := h.cells (g := g) rfl k u hk
  have e : (⟨g, 0, none⟩ : Addr).add k = ⟨g, k, none⟩ := by unfold Addr.add; split <;> simp_all
  rwa [e] at this
theorem one_drew {w w1 : World} {o1 : Obj} (h : Below (w.alloc o1).drew.heap.size (w.alloc o1).drew w1) : Below w.heap.size w w1 :=
  ((al1 w o1).drew).trans (h.mono (by simp))
theorem wr64 {x : Nat} (h : x ≤ 18446744073709551615) : IntKind.u64.wrap (x : Int) = (x : Int) := by rw [IntKind.wrap_u64]; omega
theorem wri64 {x : Nat} (h : x ≤ 9223372036854775807) : IntKind.i64.wrap (x : Int) = (x : Int) := IntWalk.i64_in _ (by omega)
theorem wr8 {x : Nat} (h : x ≤ 255) : IntKind.u8.wrap (x : Int) = (x : Int) := by rw [IntKind.wrap_u8]; omega
theorem wr32 {x : Nat} (h : x ≤ 4294967295) : IntKind.u32.wrap (x : Int) = (x : Int) := by rw [IntKind.wrap_u32]; omega
end Go.Proofs.Ytkpjinkkjbljkaa
