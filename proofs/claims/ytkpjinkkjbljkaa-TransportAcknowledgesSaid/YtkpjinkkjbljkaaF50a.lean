/- What the rows of TransportWhole and TransportAcknowledges need: a message by value, a list of conditions. No condition. -/
import Derived.Test.YtkpjinkkjbljkaaF50
import Derived.Test.YtkpjinkkjbljkaaTs4
namespace Go.Proofs.Ytkpjinkkjbljkaa
open Go.RowKit Go.ChangeShapes Go.WideShapes Go.ChangeAt Go.Deep

set_option maxRecDepth 100000 in
/-- A message out of the cells of its fields. -/
theorem open_acc_cells {H : Type} {enc : TypeId × Value → H} {w : World} {fuel : Nat} {l : List Value} {x : DataW H × List MemPlace} (hl : l.length = 8)
    (hf : DataW.trod enc Try.prog w 0 (fun _ => true) true fuel 43 l = some x) : ∃ (p : AccS) (v : Value) (bl : List UInt8), l = accCs p v ∧ BS w w.heap.size v bl ∧ p.seq < 4294967296 := by
  obtain ⟨ys, n, _, _, _, hlen, hg⟩ := DataW.trod_struct Try.underlying43 hf
  have hlen' : ys.length = 6 := hlen
  have e0 : DataW.trod enc Try.prog w 0 (fun _ => true) true n 39 ((l.drop 0).take 1) = ys[0]? := hg 0 _ rfl
  have e1 : DataW.trod enc Try.prog w 0 (fun _ => true) true n 39 ((l.drop 1).take 1) = ys[1]? := hg 1 _ rfl
  have e2 : DataW.trod enc Try.prog w 0 (fun _ => true) true n 4 ((l.drop 2).take 1) = ys[2]? := hg 2 _ rfl
  have e3 : DataW.trod enc Try.prog w 0 (fun _ => true) true n 3 ((l.drop 3).take 1) = ys[3]? := hg 3 _ rfl
  have e4 : DataW.trod enc Try.prog w 0 (fun _ => true) true n 41 ((l.drop 4).take 3) = ys[4]? := hg 4 _ rfl
  have e5 : DataW.trod enc Try.prog w 0 (fun _ => true) true n 23 ((l.drop 7).take 1) = ys[5]? := hg 5 _ rfl
  obtain ⟨x0, c0, w0⟩ := leaf_int Try.underlying39 e0 (by omega)
  obtain ⟨x1, c1, w1⟩ := leaf_int Try.underlying39 e1 (by omega)
  obtain ⟨x2, c2⟩ := leaf_bool Try.underlying4 e2 (by omega)
  obtain ⟨x3, c3, _⟩ := leaf_int Try.underlying3 e3 (by omega)
  obtain ⟨y4, hy4⟩ := leaf e4 (by omega)
  obtain ⟨zs, n4, _, _, _, hlen4, hg4⟩ := DataW.trod_struct Try.underlying41 hy4
  have hlen4' : zs.length = 3 := hlen4
  have g0 : DataW.trod enc Try.prog w 0 (fun _ => true) true n4 39 ((((l.drop 4).take 3).drop 0).take 1) = zs[0]? := hg4 0 _ rfl
  have g1 : DataW.trod enc Try.prog w 0 (fun _ => true) true n4 22 ((((l.drop 4).take 3).drop 1).take 1) = zs[1]? := hg4 1 _ rfl
  have g2 : DataW.trod enc Try.prog w 0 (fun _ => true) true n4 22 ((((l.drop 4).take 3).drop 2).take 1) = zs[2]? := hg4 2 _ rfl
  obtain ⟨x4, c4', w4⟩ := leaf_int Try.underlying39 g0 (by omega)
  obtain ⟨x5, c5', w5⟩ := leaf_int Try.underlying22 g1 (by omega)
  obtain ⟨x6, c6', w6⟩ := leaf_int Try.underlying22 g2 (by omega)
  have c4 := at_nest c4'
  have c5 := at_nest c5'
  have c6 := at_nest c6'
  obtain ⟨y7, hy7⟩ := leaf e5 (by omega)
  obtain ⟨v, hv⟩ : ∃ v, l[7]? = some v := ⟨_, List.getElem?_eq_getElem (by omega)⟩
  have hcell : (l.drop 7).take 1 = [v] := by
    have h7 : 7 < l.length := by omega
    rw [List.getElem?_eq_getElem h7] at hv
    rw [List.drop_eq_getElem_cons h7, Option.some.inj hv]
    simp
  rw [hcell] at hy7
  obtain ⟨bl, hbl⟩ := open_bytes_cells Try.underlying23 Try.underlying5 (by kernel_rfl) hy7
  have r0 : 0 ≤ x0 := by have : 0 ≤ x0 ∧ x0 ≤ 65535 := by simpa [Lit.wf, IntKind.min, IntKind.max, IntKind.signed, IntKind.bits] using w0
                         omega
  have r1 : 0 ≤ x1 := by have : 0 ≤ x1 ∧ x1 ≤ 65535 := by simpa [Lit.wf, IntKind.min, IntKind.max, IntKind.signed, IntKind.bits] using w1
                         omega
  have r4 : 0 ≤ x4 := by have : 0 ≤ x4 ∧ x4 ≤ 65535 := by simpa [Lit.wf, IntKind.min, IntKind.max, IntKind.signed, IntKind.bits] using w4
                         omega
  have r5 : 0 ≤ x5 := by have : 0 ≤ x5 ∧ x5 ≤ 4294967295 := by simpa [Lit.wf, IntKind.min, IntKind.max, IntKind.signed, IntKind.bits] using w5
                         omega
  have r6 : 0 ≤ x6 ∧ x6 ≤ 4294967295 := by simpa [Lit.wf, IntKind.min, IntKind.max, IntKind.signed, IntKind.bits] using w6
  obtain ⟨n0, rfl⟩ := Int.eq_ofNat_of_zero_le r0
  obtain ⟨n1, rfl⟩ := Int.eq_ofNat_of_zero_le r1
  obtain ⟨m4, rfl⟩ := Int.eq_ofNat_of_zero_le r4
  obtain ⟨n5, rfl⟩ := Int.eq_ofNat_of_zero_le r5
  obtain ⟨n6, rfl⟩ := Int.eq_ofNat_of_zero_le r6.1
  refine ⟨⟨n0, n1, x2, x3, m4, n5, n6⟩, v, bl, ?_, hbl, by show n6 < _; omega⟩
  apply List.ext_getElem?
  intro j
  match j with
  | 0 => simpa using c0
  | 1 => simpa using c1
  | 2 => simpa using c2
  | 3 => simpa using c3
  | 4 => simpa using c4
  | 5 => simpa using c5
  | 6 => simpa using c6
  | 7 => simpa using hv
  | j + 8 => rw [List.getElem?_eq_none (by omega), List.getElem?_eq_none (by simp)]
set_option maxRecDepth 100000 in
/-- A message by value. -/
theorem open_acc {H : Type} {enc : TypeId × Value → H} {w : World} {r : Reach} {b0 : Nat} {v : Value} {d : DataW H} {p : List MemPlace}
    (hv : Value.okWide Try.prog w r b0 43 v) (h : DataW.Trod enc Try.prog w 0 (fun _ => true) true 43 v d p) : ∃ (q : AccS) (u : Value) (bl : List UInt8), v = accV q u ∧ BS w w.heap.size u bl ∧ q.seq < 4294967296 := by
  obtain ⟨cs, rfl, hsz⟩ := okWide_struct Try.underlying43 hv
  rw [show Try.prog.cellsOf 43 = 8 by kernel_rfl] at hsz
  obtain ⟨fuel, hf⟩ := h
  obtain ⟨q, u, bl, hl, hb, hq⟩ := open_acc_cells (l := cs.toList) (by simpa using hsz) hf
  refine ⟨q, u, bl, ?_, hb, hq⟩
  have e : cs = #[.int .u16 (q.src : Int), .int .u16 (q.dst : Int), .bool q.app, .int .i64 q.ttl, .int .u16 (q.ssrc : Int), .int .u32 (q.iv : Int), .int .u32 (q.seq : Int), u] := by
    rw [← Array.toList_inj, hl]
  rw [e]
set_option maxRecDepth 100000 in
theorem bs_le {w : World} {B : Nat} {v : Value} {l : List UInt8} (h : BS w B v l) : l.length ≤ 9223372036854775807 := by
  obtain ⟨A, c, _, h1, h2, _⟩ := h
  simp only [maxLen] at h2
  omega
/-- Conditions. -/
def boolOf : Value → Bool
  | .bool b => b
  | _ => false
set_option maxRecDepth 100000 in
theorem open_bools {H : Type} {enc : TypeId × Value → H} {W : World} {r : Reach} {b0 : Nat} {v : Value} {d : DataW H} {p : List MemPlace} (hv : Value.okWide Try.prog W r b0 51 v) (h : DataW.Trod enc Try.prog W 0 (fun _ => true) true 51 v d p) :
    ∃ l : List Bool, Sl W W.heap.size 1 v l.length (l.map fun b => .bool b) := by
  obtain ⟨n, cs, hs, _, hi⟩ := open_sl Try.underlying51 (size := 1) (by kernel_rfl) (by omega) hv h
  have hl := hs.len
  have e1 : cs = (cs.map boolOf).map fun b => .bool b := by
    apply List.ext_getElem?
    intro i
    by_cases hin : i < n
    · obtain ⟨fuel, y, hy⟩ := hi i hin
      obtain ⟨x, hx, _⟩ := DataW.trod_bool Try.underlying4 hy
      have hc : cs[i]? = some (.bool x) := by
        have := congrArg (·[0]?) hx
        simpa [List.getElem?_take, List.getElem?_drop] using this
      simp [List.getElem?_map, hc, boolOf]
    · rw [List.getElem?_eq_none (by omega), List.getElem?_eq_none (by simp; omega)]
  refine ⟨cs.map boolOf, ?_⟩
  rw [← e1, List.length_map, show cs.length = n by omega]
  exact hs
end Go.Proofs.Ytkpjinkkjbljkaa
