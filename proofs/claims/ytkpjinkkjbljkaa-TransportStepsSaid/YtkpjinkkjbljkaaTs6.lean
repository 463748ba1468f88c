/- What transport.Send does, as plain data; words for its walk. No condition. -/
import Derived.Test.YtkpjinkkjbljkaaTs5
import Derived.Test.YtkpjinkkjbljkaaUp
namespace Go.Proofs.Ytkpjinkkjbljkaa
open Go.RowKit

/-- The parts of a message. -/
def chunk (l : List UInt8) (k : Nat) : List UInt8 := (l.drop (12 * k)).take 12
def chunks (l : List UInt8) (n : Nat) : List (List UInt8) := (List.range n).map (chunk l)
def cntP (l : List UInt8) : Nat := (l.length + 11) / 12
theorem chunks_len (l : List UInt8) (n : Nat) : (chunks l n).length = n := by simp [chunks]
theorem chunks_at {l : List UInt8} {n k : Nat} (h : k < n) : (chunks l n)[k]? = some (chunk l k) := by simp [chunks, h]
theorem chunks_succ (l : List UInt8) (n : Nat) : chunks l (n + 1) = chunks l n ++ [chunk l n] := by simp [chunks, List.range_succ]
theorem chunk_le (l : List UInt8) (k : Nat) : (chunk l k).length ≤ 12 := by unfold chunk; rw [List.length_take]; omega
/-- The message that is being sent. -/
def mOut (a : AccS) (l : List UInt8) (now : Int) : OutS := ⟨a.dst, a.src, a.app, a.seq, a.iv, chunks l (cntP l), 0, now + 20, 1, a.ttl⟩
/-- The messages behind Send; the PDUs. -/
def sendO (os : List OutS) (a : AccS) (l : List UInt8) (now : Int) : List OutS := if refuseN os a l.length = 0 ∧ 15 < l.length then os ++ [mOut a l now] else os
def segs (a : AccS) (l : List UInt8) (now : Int) (n : Nat) : List (Low × List UInt8) := (List.range n).map fun i => (segL (mOut a l now) i, chunk l i)
def sendL (os : List OutS) (a : AccS) (l : List UInt8) (now : Int) : List (Low × List UInt8) :=
  if refuseN os a l.length ≠ 0 then [] else if l.length ≤ 15 then [(⟨false, false, a.app, 0, 0, 0, 0, 0, false⟩, l)] else segs a l now (cntP l)
theorem segs_len (a : AccS) (l : List UInt8) (now : Int) (n : Nat) : (segs a l now n).length = n := by simp [segs]
theorem segs_succ (a : AccS) (l : List UInt8) (now : Int) (n : Nat) : segs a l now (n + 1) = segs a l now n ++ [(segL (mOut a l now) n, chunk l n)] := by simp [segs, List.range_succ]

/-! ### Lists of PDUs in memory -/
abbrev lowF (p : Low × List UInt8) (v : Value) : List Value := lowCs p.1 v
theorem lowF_len (p : Low × List UInt8) (v : Value) : (lowF p v).length = 10 := rfl
theorem lowCs_one (p : Low) {v : Value} (h : v.oneCell' = true) : ∀ u ∈ lowCs p v, u.oneCell' = true := by
  intro u hu
  simp only [lowCs, List.mem_cons, List.not_mem_nil, or_false] at hu
  rcases hu with rfl | rfl | rfl | rfl | rfl | rfl | rfl | rfl | rfl | rfl <;> first | rfl | exact h
/-- A slice of PDUs that reads as these. -/
def LowsV (w : World) (B : Nat) (v : Value) (ps : List (Low × List UInt8)) : Prop :=
  ∃ vs : List Value, vs.length = ps.length ∧ Sl w B 10 v ps.length (flat2 lowF ps vs) ∧ ∀ (k : Nat) p u, ps[k]? = some p → vs[k]? = some u → BS w B u p.2
/-- The same, of the call's own. -/
def OwnLows (w : World) (base : Nat) (v : Value) (ps : List (Low × List UInt8)) : Prop :=
  ∃ vs : List Value, vs.length = ps.length ∧ w.ownsRow base 25 10 v ps.length (flat2 lowF ps vs) ∧ ∀ (k : Nat) p u, ps[k]? = some p → vs[k]? = some u → OB w base u p.2
section
variable {w w' : World} {B B' base : Nat} {v : Value} {ps : List (Low × List UInt8)}
theorem LowsV.nil (w : World) (B : Nat) : LowsV w B (.slice none 0 0) [] := ⟨[], rfl, Sl.nil w B 10, fun _ _ _ h => by simp at h⟩
theorem LowsV.below (h : LowsV w B v ps) (hb : Below B w w') : LowsV w' B v ps := by
  obtain ⟨vs, h1, h2, h3⟩ := h
  exact ⟨vs, h1, h2.below hb, fun k p u hp hu => (h3 k p u hp hu).below hb⟩
theorem LowsV.more (h : LowsV w B v ps) (hb : B ≤ B') : LowsV w B' v ps := by
  obtain ⟨vs, h1, h2, h3⟩ := h
  exact ⟨vs, h1, h2.more hb, fun k p u hp hu => (h3 k p u hp hu).more hb⟩
theorem LowsV.on (h : LowsV w w.heap.size v ps) (hb : Below w.heap.size w w') : LowsV w' w'.heap.size v ps := (h.below hb).more hb.size
theorem OwnLows.reads (h : OwnLows w base v ps) : LowsV w w.heap.size v ps := by
  obtain ⟨vs, h1, h2, h3⟩ := h
  exact ⟨vs, h1, Sl.of_own h2, fun k p u hp hu => BS.of_own rfl (h3 k p u hp hu)⟩
theorem OwnLows.on (h : OwnLows w base v ps) (hb : Below w.heap.size w w') : OwnLows w' base v ps := by
  obtain ⟨vs, h1, h2, h3⟩ := h
  exact ⟨vs, h1, own_on h2 hb, fun k p u hp hu => own_on (h3 k p u hp hu) hb⟩
theorem OwnLows.low {base' : Nat} (h : OwnLows w base v ps) (hb : base' ≤ base) : OwnLows w base' v ps := by
  obtain ⟨vs, h1, h2, h3⟩ := h
  exact ⟨vs, h1, own_base h2 hb, fun k p u hp hu => own_base (h3 k p u hp hu) hb⟩
theorem OwnLows.far {b : Nat} (h : OwnLows w base v ps) (hb : b < base) (j : Nat) (x : Value) : OwnLows (w.setCell ⟨b, j, none⟩ x) base v ps := by
  obtain ⟨vs, h1, h2, h3⟩ := h
  exact ⟨vs, h1, own_far h2 hb j x, fun k p u hp hu => own_far (h3 k p u hp hu) hb j x⟩
theorem OwnLows.nil (w : World) (base : Nat) : OwnLows w base (.slice none 0 0) [] := ⟨[], rfl, World.ownsRow_nil _ _ _ _, fun _ _ _ h => by simp at h⟩
/-- A row of another type has grown. -/
theorem own_grown_type {base base' size size' n n' : Nat} {e e' : TypeId} {u x : Value} {xs ys : List Value} (h : w.ownsRow base e size u n xs) (h' : w.ownsRow base' e' size' x n' ys) (hne : e ≠ e') (hg : w.grownBy w' x.ownBlock) : w'.ownsRow base e size u n xs :=
  own_apart h hg fun g h1 h2 => own_type h h' hne g h1 h2.symm
theorem OwnParts.grown {base' size' n' : Nat} {e' : TypeId} {x : Value} {ys : List Value} {qs : List (List UInt8)} (h : OwnParts w base v qs) (h' : w.ownsRow base' e' size' x n' ys) (h1 : 23 ≠ e') (h2 : 5 ≠ e') (hg : w.grownBy w' x.ownBlock) : OwnParts w' base v qs := by
  obtain ⟨us, k1, k2, k3⟩ := h
  exact ⟨us, k1, own_grown_type k2 h' h1 hg, fun k u p hu hp => own_grown_type (k3 k u p hu hp) h' h2 hg⟩
theorem OwnMany.grown {α : Type} {pf : α → List (List UInt8)} {os : List α} {xs : List Value} {base' size' n' : Nat} {e' : TypeId} {x : Value} {ys : List Value} (h : OwnMany pf w base os xs) (h' : w.ownsRow base' e' size' x n' ys) (h1 : 23 ≠ e') (h2 : 5 ≠ e') (hg : w.grownBy w' x.ownBlock) : OwnMany pf w' base os xs :=
  ⟨h.1, fun k o u ho hu => (h.2.1 k o u ho hu).grown h' h1 h2 hg, h.2.2⟩
end
/-- The front of a slice of bytes. -/
theorem BS.front {w : World} {B c : Nat} {A : Option Addr} {l : List UInt8} (h : BS w B (.slice A l.length c) l) {k : Nat} (hk : k ≤ l.length) : BS w B (.slice A k c) (l.take k) := by
  obtain ⟨A', c', e, h1, h2, h3, h4⟩ := h
  injection e with e1 e2 e3
  subst e1 e3
  have hl : (l.take k).length = k := by rw [List.length_take]; omega
  refine ⟨A, c, by rw [hl], by rw [hl]; omega, h2, by rw [bys_length, hl]; omega, ?_⟩
  rcases h4 with h4 | ⟨b, off, rfl, hb, hc⟩
  · exact .inl (by rw [bys_take, h4, List.take_nil])
  · refine .inr ⟨b, off, rfl, hb, fun j u hu => hc j u ?_⟩
    rw [bys_take, List.getElem?_take] at hu
    split at hu
    · exact hu
    · cases hu
abbrev LowsV2 (w : World) (b0 B : Nat) (v : Value) (ps : List (Low × List UInt8)) : Prop := ManyV2 lowF 10 (fun p => p.2) w b0 B v ps
theorem lows_weak {w : World} {b0 B : Nat} {v : Value} {ps : List (Low × List UInt8)} (h : LowsV2 w b0 B v ps) : LowsV w B v ps := h.weak
theorem OwnLows.upto {w : World} {b0 base : Nat} {v : Value} {ps : List (Low × List UInt8)} (h : OwnLows w base v ps) (hb : b0 ≤ base) : LowsV2 w b0 w.heap.size v ps := by
  obtain ⟨vs, h1, h2, h3⟩ := h
  exact ⟨vs, h1, (Sl2.of_own h2).mono hb (Nat.le_refl _), fun k p u hp hu => (BS2.of_own (h3 k p u hp hu)).mono hb (Nat.le_refl _)⟩
/-- What Send leaves. -/
def SendPost (os : List OutS) (is : List InS) (a : AccS) (l : List UInt8) (now : Int) (w : World) (e : Ending) (w' : World) : Prop :=
  Below w.heap.size w w' ∧ ∃ v u x, e = .returned (.tuple #[.agg #[v, u], x, .int .i64 (refuseN os a l.length)]) ∧
    RowV2 outCs 10 OutS.parts w' w.heap.size w'.heap.size v (sendO os a l now) ∧ RowV2 inCs 11 InS.parts w' w.heap.size w'.heap.size u is ∧ LowsV2 w' w.heap.size w'.heap.size x (sendL os a l now)
theorem res_tr3 {fn : Func} {i j k : Tmp} (h : fn.results = #[.cell i 47, .tmp j, .tmp k]) (tmps : Array Value) (w : World) (b : Nat) (u v : Value) (hp : tmps.getD i undef = .pointer (some ⟨b, 0, none⟩)) (hs : Box w b [u, v]) :
    (results fn tmps).run Try.prog w = .ok (.tuple #[.agg #[u, v], tmps.getD j undef, tmps.getD k undef]) w := by
  have c0 := hs.cell (j := 0) rfl
  have c1 := hs.cell (j := 1) rfl
  rw [Array.getD_eq_getD_getElem?] at hp
  simp [results, h, hp, go_sem, c0, c1]
end Go.Proofs.Ytkpjinkkjbljkaa
