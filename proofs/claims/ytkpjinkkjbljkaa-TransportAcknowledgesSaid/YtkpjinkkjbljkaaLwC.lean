/- What the walks of TransportWhole and TransportAcknowledges share. No condition but the sizes. -/
import Derived.Test.YtkpjinkkjbljkaaLw50a
import Derived.Test.YtkpjinkkjbljkaaTs8
import Derived.Test.YtkpjinkkjbljkaaTqP
namespace Go.Proofs.Ytkpjinkkjbljkaa
open Go.RowKit

/-- The cells of a PDU in a list. -/
theorem lows_at {w : World} {B : Nat} {v : Value} {ps : List (Low × List UInt8)} (h : LowsV w B v ps) {i : Nat} {a : Low × List UInt8} (hi : ps[i]? = some a) : ∃ (b o c : Nat) (u : Value), v = .slice (some ⟨b, o, none⟩) ps.length c ∧ b < B ∧ (∀ (j : Nat) (y : Value), (lowCs a.1 u)[j]? = some y → w.cell? ⟨b, o + i * 10 + j, none⟩ = some y) ∧ BS w B u a.2 := by
  obtain ⟨vs, h1, h2, h3⟩ := h
  have hiv : i < vs.length := by have := (List.getElem?_eq_some_iff.1 hi).1; omega
  have hv := List.getElem?_eq_getElem hiv
  have hp := h3 i a vs[i] hi hv
  have c0 := flat2_at lowF_len ps vs i a vs[i] 0 h1 hi hv (by omega)
  obtain ⟨A, c, rfl, _⟩ := id h2
  obtain ⟨b, o, rfl, hB, hc⟩ := h2.cells c0
  refine ⟨b, o, c, vs[i], rfl, hB, fun j y hy => ?_, hp⟩
  have hj : j < 10 := (List.getElem?_eq_some_iff.1 hy).1
  have cj := flat2_at lowF_len ps vs i a vs[i] j h1 hi hv hj
  rw [Nat.add_assoc]
  exact hc _ _ (cj.trans hy)
theorem segs_at {a : AccS} {l : List UInt8} {now : Int} {n k : Nat} (hk : k < n) : (segs a l now n)[k]? = some (segL (mOut a l now) k, chunk l k) := by simp [segs, hk]
/-- Send at a message of any size. -/
theorem send_all (os : List OutS) (is : List InS) (a : AccS) (l : List UInt8) (now : Int) (hl : l.length ≤ 9223372036854775807) (hs : a.seq < 4294967296) (hnow : now ≤ 4611686018427387904) (hnow' : 0 ≤ now) (v u bv : Value) (w : World) (hv : RowV outCs 10 OutS.parts w w.heap.size v os) (hu : RowV inCs 11 InS.parts w w.heap.size u is) (hbv : BS w w.heap.size bv l)
    (ho : Sized (os.map OutS.parts)) (hi : Sized (is.map InS.parts)) : Calls Try.prog 22 #[.agg #[v, u], accV a bv, .int .i64 now] w (SendPost os is a l now w) := by
  by_cases h : 384 < l.length
  · exact send_big os is a l now hl h hs v u bv w hv hu hbv ho hi
  · exact send_any os is a l now (by omega) hs hnow hnow' v u bv w hv hu hbv ho hi
end Go.Proofs.Ytkpjinkkjbljkaa
