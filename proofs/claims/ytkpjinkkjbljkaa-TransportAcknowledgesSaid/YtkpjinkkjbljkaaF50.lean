/- What the rows of layer 50 share: a PDU of the lower transport layer by value, its bytes among its fields. No condition. -/
import Derived.Test.YtkpjinkkjbljkaaOpen
import Derived.Test.YtkpjinkkjbljkaaTr1
namespace Go.Proofs.Ytkpjinkkjbljkaa
open Go.RowKit Go.ChangeShapes Go.WideShapes Go.ChangeAt Go.Deep

section
variable {H : Type} {enc : TypeId × Value → H} {P : Program} {W : World}
theorem open_sl_cells {t e : TypeId} {size fuel : Nat} {v : Value} {x : DataW H × List MemPlace} (ht : P.underlying t = some (.slice e)) (hC : P.cellsOf e = size) (hpos : 0 < size) (hf : DataW.trod enc P W 0 (fun _ => true) true fuel t [v] = some x) :
    ∃ (n : Nat) (cs : List Value), Sl W W.heap.size size v n cs ∧ (∀ i, i < n → ∃ fuel y, DataW.trod enc P W 0 (fun _ => true) true fuel e ((cs.drop (i * size)).take size) = some y) := by
  rcases open_slice ht hf with ⟨hcs, hx⟩ | ⟨a, len0, cap0, m, n, D, Pl, hcs, _, hl, hm, hmm, hx, hi⟩
  · simp only [List.cons.injEq, and_true] at hcs
    subst hcs
    exact ⟨0, [], Sl.nil _ _ _, fun i hi => absurd hi (by omega)⟩
  · simp only [List.cons.injEq, and_true] at hcs
    subst hcs
    simp only [if_true] at hmm
    subst hmm
    clear hx
    obtain ⟨b, off, spot⟩ := a
    have hspot : len0 = 0 ∨ spot = none := by
      rcases Nat.eq_zero_or_pos len0 with h0 | h0
      · exact .inl h0
      · obtain ⟨cs', hc, _⟩ := hi 0 (by omega)
        rw [hC] at hc
        obtain ⟨_, hcl, hat⟩ := World.cells?_some hc
        have h1 := hat 0 hpos
        have h2 : cs'[0]? = some (cs'[0]'(by omega)) := List.getElem?_eq_getElem (by omega)
        rw [h2] at h1
        have h3 := World.cell?_spot h1
        simp [Addr.add] at h3
        exact .inr h3
    rcases hspot with h0 | rfl
    · subst h0
      exact ⟨0, [], ⟨_, _, rfl, by omega, hm, by simp, .inl rfl⟩, fun i hi => absurd hi (by omega)⟩
    · let f : Nat → Value := fun j => (W.cell? ⟨b, off + j, none⟩).getD undef
      have hadd : ∀ j, (⟨b, off, none⟩ : Addr).add j = ⟨b, off + j, none⟩ := fun j => by unfold Addr.add; split <;> simp_all
      have hat : ∀ i j, i < len0 → j < size → W.cell? ⟨b, off + (i * size + j), none⟩ = some (f (i * size + j)) := by
        intro i j hi' hj
        obtain ⟨cs', hc, _⟩ := hi i (by omega)
        rw [hC] at hc
        obtain ⟨_, hcl, hat⟩ := World.cells?_some hc
        have h1 := hat j hj
        rw [add_add, hadd, List.getElem?_eq_getElem (by omega)] at h1
        show _ = some ((W.cell? ⟨b, off + (i * size + j), none⟩).getD undef)
        rw [h1]; rfl
      refine ⟨len0, (List.range (len0 * size)).map f, ⟨_, _, rfl, hl, hm, by simp, ?_⟩, fun i hi' => ?_⟩
      · rcases Nat.eq_zero_or_pos len0 with h0 | h0
        · subst h0; exact .inl (by simp)
        · refine .inr ⟨b, off, rfl, ?_, fun k u hk => ?_⟩
          · have h1 := hat 0 0 h0 hpos
            rcases Nat.lt_or_ge b W.heap.size with h | h
            · exact h
            · simp [World.cell?, Array.getElem?_eq_none h] at h1
          · have hk' : k < len0 * size := by
              rcases Nat.lt_or_ge k (len0 * size) with h | h
              · exact h
              · rw [List.getElem?_eq_none (by simpa using h)] at hk; cases hk
            have hd : k / size < len0 := Nat.div_lt_of_lt_mul (by rw [Nat.mul_comm]; exact hk')
            have h1 := hat (k / size) (k % size) hd (Nat.mod_lt _ hpos)
            rw [Nat.div_add_mod' k size] at h1
            rw [h1]
            simpa [hk'] using hk
      · obtain ⟨cs', hc, ht'⟩ := hi i (by omega)
        rw [hC] at hc
        obtain ⟨_, hcl, hat'⟩ := World.cells?_some hc
        have e : (((List.range (len0 * size)).map f).drop (i * size)).take size = cs' := by
          have hle : i * size + size ≤ len0 * size := by
            have := Nat.mul_le_mul_right size (show i + 1 ≤ len0 by omega)
            rw [Nat.add_mul] at this
            omega
          apply List.ext_getElem?
          intro j
          by_cases hj : j < size
          · rw [List.getElem?_take_of_lt hj, List.getElem?_drop]
            have h1 := hat' j hj
            rw [add_add, hadd] at h1
            have h2 := hat i j hi' hj
            rw [h2] at h1
            rw [← h1]
            simp [show i * size + j < len0 * size by omega]
          · rw [List.getElem?_eq_none (by simp; omega), List.getElem?_eq_none (by omega)]
        rw [e]
        exact ⟨_, _, ht'⟩

theorem open_bytes_cells {t e : TypeId} {fuel : Nat} {v : Value} {x : DataW H × List MemPlace} (ht : P.underlying t = some (.slice e)) (he : P.underlying e = some (.int .u8)) (hC : P.cellsOf e = 1) (hf : DataW.trod enc P W 0 (fun _ => true) true fuel t [v] = some x) :
    ∃ l : List UInt8, BS W W.heap.size v l := by
  obtain ⟨n, cs, hs, hi⟩ := open_sl_cells ht hC (by omega) hf
  have hl := hs.len
  have e1 : cs = bys (cs.map byteOf) := by
    apply List.ext_getElem?
    intro i
    by_cases hin : i < n
    · obtain ⟨fuel, y, hy⟩ := hi i hin
      obtain ⟨x, hx, _, hw⟩ := DataW.trod_int he hy
      have hc : cs[i]? = some (.int .u8 x) := by
        have := congrArg (·[0]?) hx
        simpa [List.getElem?_take, List.getElem?_drop] using this
      have hb : 0 ≤ x ∧ x ≤ 255 := by simpa [Lit.wf, IntKind.min, IntKind.max, IntKind.signed, IntKind.bits] using hw
      simp only [bys, List.map_map, List.getElem?_map, hc, Option.map_some, Function.comp, byteOf]
      congr 2
      rw [UInt8.toNat_ofNat']
      omega
    · rw [List.getElem?_eq_none (by omega), List.getElem?_eq_none (by simp [bys]; omega)]
  refine ⟨cs.map byteOf, ?_⟩
  unfold BS
  rw [← e1, List.length_map, show cs.length = n by omega]
  exact hs

end
theorem at_of_take {l : List Value} {o : Nat} {v : Value} (h : (l.drop o).take 1 = [v]) : l[o]? = some v := by
  have := congrArg (fun l : List Value => l[0]?) h
  simpa [List.getElem?_take, List.getElem?_drop] using this
theorem at_nest {l : List Value} {o c j : Nat} {v : Value} (h : ((l.drop o).take c)[j]? = some v) : l[o + j]? = some v := by
  rw [List.getElem?_take] at h
  split at h
  · rwa [List.getElem?_drop] at h
  · cases h
section
variable {H : Type} {enc : TypeId × Value → H} {P : Program} {w : World} {base n : Nat} {sp : Nat → Bool} {held : Bool} {xs : List (DataW H × List MemPlace)}
theorem leaf {t : TypeId} {l : List Value} {o i c : Nat} (h : DataW.trod enc P w base sp held n t ((l.drop o).take c) = xs[i]?) (hi : i < xs.length) : ∃ y, DataW.trod enc P w base sp held n t ((l.drop o).take c) = some y := ⟨_, h.trans (List.getElem?_eq_getElem hi)⟩
theorem leaf_int {t : TypeId} {k : IntKind} {l : List Value} {o i : Nat} (ht : P.underlying t = some (.int k)) (h : DataW.trod enc P w base sp held n t ((l.drop o).take 1) = xs[i]?) (hi : i < xs.length) : ∃ x, l[o]? = some (.int k x) ∧ (Lit.int k x).wf = true := by
  obtain ⟨y, hy⟩ := leaf h hi
  obtain ⟨x, h1, _, h2⟩ := DataW.trod_int ht hy
  exact ⟨x, at_of_take h1, h2⟩
theorem leaf_bool {t : TypeId} {l : List Value} {o i : Nat} (ht : P.underlying t = some .bool) (h : DataW.trod enc P w base sp held n t ((l.drop o).take 1) = xs[i]?) (hi : i < xs.length) : ∃ x, l[o]? = some (.bool x) := by
  obtain ⟨y, hy⟩ := leaf h hi
  obtain ⟨x, h1, _⟩ := DataW.trod_bool ht hy
  exact ⟨x, at_of_take h1⟩
end


set_option maxRecDepth 100000 in
/-- A PDU out of the cells of its fields. -/
theorem open_low_cells {H : Type} {enc : TypeId × Value → H} {w : World} {fuel : Nat} {l : List Value} {x : DataW H × List MemPlace} (hl : l.length = 10)
    (hf : DataW.trod enc Try.prog w 0 (fun _ => true) true fuel 25 l = some x) : ∃ (p : Low) (v : Value) (bl : List UInt8), l = [.bool p.ctl, .bool p.seg, .bool p.app, .int .i64 p.zero, .int .i64 p.idx, .int .i64 p.last, .int .i64 p.op, .int .u32 (p.blk : Int), .bool p.fr, v] ∧ BS w w.heap.size v bl ∧ p.blk < 4294967296 := by
  obtain ⟨ys, n, _, _, _, hlen, hg⟩ := DataW.trod_struct Try.underlying25 hf
  have hlen' : ys.length = 10 := hlen
  have e0 : DataW.trod enc Try.prog w 0 (fun _ => true) true n 4 ((l.drop 0).take 1) = ys[0]? := hg 0 _ rfl
  have e1 : DataW.trod enc Try.prog w 0 (fun _ => true) true n 4 ((l.drop 1).take 1) = ys[1]? := hg 1 _ rfl
  have e2 : DataW.trod enc Try.prog w 0 (fun _ => true) true n 4 ((l.drop 2).take 1) = ys[2]? := hg 2 _ rfl
  have e3 : DataW.trod enc Try.prog w 0 (fun _ => true) true n 3 ((l.drop 3).take 1) = ys[3]? := hg 3 _ rfl
  have e4 : DataW.trod enc Try.prog w 0 (fun _ => true) true n 3 ((l.drop 4).take 1) = ys[4]? := hg 4 _ rfl
  have e5 : DataW.trod enc Try.prog w 0 (fun _ => true) true n 3 ((l.drop 5).take 1) = ys[5]? := hg 5 _ rfl
  have e6 : DataW.trod enc Try.prog w 0 (fun _ => true) true n 3 ((l.drop 6).take 1) = ys[6]? := hg 6 _ rfl
  have e7 : DataW.trod enc Try.prog w 0 (fun _ => true) true n 22 ((l.drop 7).take 1) = ys[7]? := hg 7 _ rfl
  have e8 : DataW.trod enc Try.prog w 0 (fun _ => true) true n 4 ((l.drop 8).take 1) = ys[8]? := hg 8 _ rfl
  have e9 : DataW.trod enc Try.prog w 0 (fun _ => true) true n 23 ((l.drop 9).take 1) = ys[9]? := hg 9 _ rfl
  obtain ⟨x0, c0⟩ := leaf_bool Try.underlying4 e0 (by omega)
  obtain ⟨x1, c1⟩ := leaf_bool Try.underlying4 e1 (by omega)
  obtain ⟨x2, c2⟩ := leaf_bool Try.underlying4 e2 (by omega)
  obtain ⟨x3, c3, _⟩ := leaf_int Try.underlying3 e3 (by omega)
  obtain ⟨x4, c4, _⟩ := leaf_int Try.underlying3 e4 (by omega)
  obtain ⟨x5, c5, _⟩ := leaf_int Try.underlying3 e5 (by omega)
  obtain ⟨x6, c6, _⟩ := leaf_int Try.underlying3 e6 (by omega)
  obtain ⟨x7, c7, w7⟩ := leaf_int Try.underlying22 e7 (by omega)
  obtain ⟨x8, c8⟩ := leaf_bool Try.underlying4 e8 (by omega)
  obtain ⟨y9, hy9⟩ := leaf e9 (by omega)
  obtain ⟨v, hv⟩ : ∃ v, l[9]? = some v := ⟨_, List.getElem?_eq_getElem (by omega)⟩
  have hcell : (l.drop 9).take 1 = [v] := by
    have h9 : 9 < l.length := by omega
    rw [List.getElem?_eq_getElem h9] at hv
    rw [List.drop_eq_getElem_cons h9, Option.some.inj hv]
    simp
  rw [hcell] at hy9
  obtain ⟨bl, hbl⟩ := open_bytes_cells Try.underlying23 Try.underlying5 (by kernel_rfl) hy9
  have r7 : 0 ≤ x7 ∧ x7 ≤ 4294967295 := by simpa [Lit.wf, IntKind.min, IntKind.max, IntKind.signed, IntKind.bits] using w7
  obtain ⟨n7, rfl⟩ := Int.eq_ofNat_of_zero_le r7.1
  refine ⟨⟨x0, x1, x2, x3, x4, x5, x6, n7, x8⟩, v, bl, ?_, hbl, by show n7 < _; omega⟩
  apply List.ext_getElem?
  intro j
  match j with
  | 0 => simpa using c0
  | 1 => simpa using c1
  | 2 => simpa using c2
  | 3 => simpa using c3
  | 4 => simpa using c4
  | 5 => simpa using c5
  | 6 => simpa using c6
  | 7 => simpa using c7
  | 8 => simpa using c8
  | 9 => simpa using hv
  | j + 10 => rw [List.getElem?_eq_none (by omega), List.getElem?_eq_none (by simp)]
set_option maxRecDepth 100000 in
/-- A PDU by value. -/
theorem open_low {H : Type} {enc : TypeId × Value → H} {w : World} {r : Reach} {b0 : Nat} {v : Value} {d : DataW H} {p : List MemPlace}
    (hv : Value.okWide Try.prog w r b0 25 v) (h : DataW.Trod enc Try.prog w 0 (fun _ => true) true 25 v d p) : ∃ (q : Low) (u : Value) (bl : List UInt8), v = lowV q u ∧ BS w w.heap.size u bl ∧ q.blk < 4294967296 := by
  obtain ⟨cs, rfl, hsz⟩ := okWide_struct Try.underlying25 hv
  rw [show Try.prog.cellsOf 25 = 10 by kernel_rfl] at hsz
  obtain ⟨fuel, hf⟩ := h
  obtain ⟨q, u, bl, hl, hb, hq⟩ := open_low_cells (l := cs.toList) (by simpa using hsz) hf
  refine ⟨q, u, bl, ?_, hb, hq⟩
  have e : cs = #[.bool q.ctl, .bool q.seg, .bool q.app, .int .i64 q.zero, .int .i64 q.idx, .int .i64 q.last, .int .i64 q.op, .int .u32 (q.blk : Int), .bool q.fr, u] := by
    rw [← Array.toList_inj, hl]
  rw [e]
end Go.Proofs.Ytkpjinkkjbljkaa
