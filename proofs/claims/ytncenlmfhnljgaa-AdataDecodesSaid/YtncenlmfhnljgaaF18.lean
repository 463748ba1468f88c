/- What the rows of layer 18 share: elements and services that came in, and how long they are. No condition. -/
import Derived.Test.YtncenlmfhnljgaaOpen
import Derived.Test.YtncenlmfhnljgaaAd6
namespace Go.Proofs.Ytncenlmfhnljgaa
open Go.RowKit Go.ChangeShapes Go.WideShapes Go.ChangeAt Go.Deep

section
variable {H : Type} {enc : TypeId × Value → H} {P : Program} {W : World}
theorem open_sl_d {t e : TypeId} {size fuel : Nat} {v : Value} {x : DataW H × List MemPlace} (ht : P.underlying t = some (.slice e)) (hC : P.cellsOf e = size) (hpos : 0 < size) (hf : DataW.trod enc P W 0 (fun _ => true) true fuel t [v] = some x) :
    ∃ (n : Nat) (cs : List Value) (D : Nat → DataW H), Sl W W.heap.size size v n cs ∧ (n = 0 ∨ ∃ sp, x.1 = .slice ((List.range n).map D) sp) ∧ (∀ i, i < n → ∃ fuel q, DataW.trod enc P W 0 (fun _ => true) true fuel e ((cs.drop (i * size)).take size) = some (D i, q)) := by
  rcases open_slice ht hf with ⟨hcs, hx⟩ | ⟨a, len0, cap0, m, n, D, Pl, hcs, _, hl, hm, hmm, hx, hi⟩
  · simp only [List.cons.injEq, and_true] at hcs
    subst hcs
    exact ⟨0, [], fun _ => .nil, Sl.nil _ _ _, .inl rfl, fun i hi => absurd hi (by omega)⟩
  · simp only [List.cons.injEq, and_true] at hcs
    subst hcs
    simp only [if_true] at hmm
    subst hmm
    obtain ⟨b, off, spot⟩ := a
    have hspot : len0 = 0 ∨ spot = none := by
      rcases Nat.eq_zero_or_pos len0 with h0 | h0
      · exact .inl h0
      · obtain ⟨cs', hc, _⟩ := hi 0 (by omega)
        rw [hC] at hc
        obtain ⟨_, hcl, hat⟩ := World.cells?_some hc
        have h1 := hat 0 hpos
        have h2 : cs'[0]? = some (cs'[0]'(by omega)) := List.getElem?_eq_getElem (by omega)
        rw [h2] at h1
        have h3 := World.cell?_spot h1
        simp [Addr.add] at h3
        exact .inr h3
    rcases hspot with h0 | rfl
    · subst h0
      exact ⟨0, [], fun _ => .nil, ⟨_, _, rfl, by omega, hm, by simp, .inl rfl⟩, .inl rfl, fun i hi => absurd hi (by omega)⟩
    · let f : Nat → Value := fun j => (W.cell? ⟨b, off + j, none⟩).getD undef
      have hadd : ∀ j, (⟨b, off, none⟩ : Addr).add j = ⟨b, off + j, none⟩ := fun j => by unfold Addr.add; split <;> simp_all
      have hat : ∀ i j, i < len0 → j < size → W.cell? ⟨b, off + (i * size + j), none⟩ = some (f (i * size + j)) := by
        intro i j hi' hj
        obtain ⟨cs', hc, _⟩ := hi i (by omega)
        rw [hC] at hc
        obtain ⟨_, hcl, hat⟩ := World.cells?_some hc
        have h1 := hat j hj
        rw [add_add, hadd, List.getElem?_eq_getElem (by omega)] at h1
        show _ = some ((W.cell? ⟨b, off + (i * size + j), none⟩).getD undef)
        rw [h1]; rfl
      refine ⟨len0, (List.range (len0 * size)).map f, D, ⟨_, _, rfl, hl, hm, by simp, ?_⟩, .inr ⟨_, by rw [hx]⟩, fun i hi' => ?_⟩
      · rcases Nat.eq_zero_or_pos len0 with h0 | h0
        · subst h0; exact .inl (by simp)
        · refine .inr ⟨b, off, rfl, ?_, fun k u hk => ?_⟩
          · have h1 := hat 0 0 h0 hpos
            rcases Nat.lt_or_ge b W.heap.size with h | h
            · exact h
            · simp [World.cell?, Array.getElem?_eq_none h] at h1
          · have hk' : k < len0 * size := by
              rcases Nat.lt_or_ge k (len0 * size) with h | h
              · exact h
              · rw [List.getElem?_eq_none (by simpa using h)] at hk; cases hk
            have hd : k / size < len0 := Nat.div_lt_of_lt_mul (by rw [Nat.mul_comm]; exact hk')
            have h1 := hat (k / size) (k % size) hd (Nat.mod_lt _ hpos)
            rw [Nat.div_add_mod' k size] at h1
            rw [h1]
            simpa [hk'] using hk
      · obtain ⟨cs', hc, ht'⟩ := hi i (by omega)
        rw [hC] at hc
        obtain ⟨_, hcl, hat'⟩ := World.cells?_some hc
        have e : (((List.range (len0 * size)).map f).drop (i * size)).take size = cs' := by
          have hle : i * size + size ≤ len0 * size := by
            have := Nat.mul_le_mul_right size (show i + 1 ≤ len0 by omega)
            rw [Nat.add_mul] at this
            omega
          apply List.ext_getElem?
          intro j
          by_cases hj : j < size
          · rw [List.getElem?_take_of_lt hj, List.getElem?_drop]
            have h1 := hat' j hj
            rw [add_add, hadd] at h1
            have h2 := hat i j hi' hj
            rw [h2] at h1
            rw [← h1]
            simp [show i * size + j < len0 * size by omega]
          · rw [List.getElem?_eq_none (by simp; omega), List.getElem?_eq_none (by omega)]
        rw [e]
        exact ⟨_, _, ht'⟩


theorem open_bytes_d {t e : TypeId} {fuel : Nat} {v : Value} {x : DataW H × List MemPlace} (ht : P.underlying t = some (.slice e)) (he : P.underlying e = some (.int .u8)) (hC : P.cellsOf e = 1) (hf : DataW.trod enc P W 0 (fun _ => true) true fuel t [v] = some x) :
    ∃ l : List UInt8, BS W W.heap.size v l ∧ DLen x.1 l.length := by
  obtain ⟨n, cs, D, hs, hd, hi⟩ := open_sl_d ht hC (by omega) hf
  have hl := hs.len
  have e1 : cs = bys (cs.map byteOf) := by
    apply List.ext_getElem?
    intro i
    by_cases hin : i < n
    · obtain ⟨fuel, y, hy⟩ := hi i hin
      obtain ⟨x, hx, _, hw⟩ := DataW.trod_int he hy
      have hc : cs[i]? = some (.int .u8 x) := by
        have := congrArg (·[0]?) hx
        simpa [List.getElem?_take, List.getElem?_drop] using this
      have hb : 0 ≤ x ∧ x ≤ 255 := by simpa [Lit.wf, IntKind.min, IntKind.max, IntKind.signed, IntKind.bits] using hw
      simp only [bys, List.map_map, List.getElem?_map, hc, Option.map_some, Function.comp, byteOf]
      congr 2
      rw [UInt8.toNat_ofNat']
      omega
    · rw [List.getElem?_eq_none (by omega), List.getElem?_eq_none (by simp [bys]; omega)]
  refine ⟨cs.map byteOf, ?_, ?_⟩
  · unfold BS
    rw [← e1, List.length_map, show cs.length = n by omega]
    exact hs
  · rw [List.length_map, show cs.length = n by omega]
    rcases hd with hd | ⟨sp, hd⟩
    · exact .inl hd
    · exact .inr ⟨_, _, hd, by simp⟩

def natOfV : Value → Nat
  | .int _ n => n.toNat
  | _ => 0
theorem open_shorts {t e : TypeId} {b0 : Nat} {r : Reach} {v : Value} {d : DataW H} {p : List MemPlace} (ht : P.underlying t = some (.slice e)) (he : P.underlying e = some (.int .u16)) (hC : P.cellsOf e = 1) (hv : Value.okWide P W r b0 t v) (h : DataW.Trod enc P W 0 (fun _ => true) true t v d p) :
    ∃ l : List Nat, WS W W.heap.size v l ∧ DLen d l.length ∧ ∀ x ∈ l, x < 65536 := by
  obtain ⟨n, cs, hs, hd, hi⟩ := open_sl ht hC (by omega) hv h
  have hl := hs.len
  have key : ∀ i, i < n → ∃ x : Nat, cs[i]? = some (.int .u16 (x : Int)) ∧ x < 65536 := by
    intro i hin
    obtain ⟨fuel, y, hy⟩ := hi i hin
    obtain ⟨x, hx, _, hw⟩ := DataW.trod_int he hy
    have hc : cs[i]? = some (.int .u16 x) := by
      have := congrArg (·[0]?) hx
      simpa [List.getElem?_take, List.getElem?_drop] using this
    have hb : 0 ≤ x ∧ x ≤ 65535 := by simpa [Lit.wf, IntKind.min, IntKind.max, IntKind.signed, IntKind.bits] using hw
    exact ⟨x.toNat, by rw [hc]; congr 2; omega, by omega⟩
  have e1 : cs = shs (cs.map natOfV) := by
    apply List.ext_getElem?
    intro i
    by_cases hin : i < n
    · obtain ⟨x, hc, _⟩ := key i hin
      simp [shs, hc, natOfV]
    · rw [List.getElem?_eq_none (by omega), List.getElem?_eq_none (by simp [shs]; omega)]
  refine ⟨cs.map natOfV, ?_, by rw [List.length_map, hl, Nat.mul_one]; exact hd, ?_⟩
  · show Sl W W.heap.size 1 v (cs.map natOfV).length (shs (cs.map natOfV))
    rw [← e1, List.length_map, show cs.length = n by omega]
    exact hs
  · intro x hx
    rw [List.mem_map] at hx
    obtain ⟨v, hv, rfl⟩ := hx
    obtain ⟨i, hi', rfl⟩ := List.getElem_of_mem hv
    obtain ⟨x, hc, hb⟩ := key i (by omega)
    rw [List.getElem?_eq_getElem hi'] at hc
    rw [Option.some.inj hc]
    simpa [natOfV] using hb

theorem bulk_mem {d : DataW H} : ∀ {l : List (DataW H)}, d ∈ l → Rows.uptoBulk d ≤ Rows.uptoBulkAll l
  | x :: r, h => by
    rcases List.mem_cons.1 h with rfl | h
    · simp only [Rows.uptoBulkAll]; omega
    · have := bulk_mem h
      simp only [Rows.uptoBulkAll]; omega

set_option maxRecDepth 100000 in
theorem open_elems {t e : TypeId} {f0 f1 : Field} {eb : TypeId} {b0 : Nat} {r : Reach} {v : Value} {d : DataW H} {p : List MemPlace} (ht : P.underlying t = some (.slice e)) (he : P.underlying e = some (.struct #[f0, f1])) (hC : P.cellsOf e = 2) (ho0 : f0.offset = 0) (ho1 : f1.offset = 1) (hc0 : P.cellsOf f0.type = 1) (hc1 : P.cellsOf f1.type = 1)
    (hf0 : P.underlying f0.type = some (.int .i64)) (hf1 : P.underlying f1.type = some (.slice eb)) (hb1 : P.underlying eb = some (.int .u8)) (hC1 : P.cellsOf eb = 1) (hv : Value.okWide P W r b0 t v) (h : DataW.Trod enc P W 0 (fun _ => true) true t v d p) :
    ∃ es : List (Int × List UInt8), ElsV W W.heap.size v es ∧ DLen d es.length ∧ ∀ e ∈ es, ∃ elems sp d0 d1, d = .slice elems sp ∧ .agg [d0, d1] ∈ elems ∧ DLen d1 e.2.length := by
  obtain ⟨a0, len0, cap0, rfl⟩ := okWide_slice ht hv
  obtain ⟨fuel, hf⟩ := h
  have hf' : DataW.trod enc P W 0 (fun _ => true) true fuel t [.slice a0 len0 cap0] = some (d, p) := by simpa [Value.cells] using hf
  obtain ⟨n, cs, D, hs, hd, hi⟩ := open_sl_d ht hC (by omega) hf'
  have hl := hs.len
  have key : ∀ i, ∃ q : Int × Value × List UInt8 × DataW H × DataW H, i < n → cs[i * 2]? = some (.int .i64 q.1) ∧ cs[i * 2 + 1]? = some q.2.1 ∧ BS W W.heap.size q.2.1 q.2.2.1 ∧ D i = .agg [q.2.2.2.1, q.2.2.2.2] ∧ DLen q.2.2.2.2 q.2.2.1.length := by
    intro i
    by_cases hin : i < n
    · obtain ⟨fuel, q, hy⟩ := hi i hin
      obtain ⟨y0, y1, m, hx, _, h0, h1⟩ := trod_struct2 he hy
      rw [ho0, hc0] at h0
      rw [ho1, hc1] at h1
      obtain ⟨x, hx0, _, hw⟩ := DataW.trod_int hf0 h0
      have hc : cs[i * 2]? = some (.int .i64 x) := by
        have := congrArg (·[0]?) hx0
        simpa [List.getElem?_take, List.getElem?_drop] using this
      have hlt : i * 2 + 1 < cs.length := by omega
      have hu : cs[i * 2 + 1]? = some cs[i * 2 + 1] := List.getElem?_eq_getElem hlt
      have hcell : (((cs.drop (i * 2)).take 2).drop 1).take 1 = [cs[i * 2 + 1]] := by
        apply List.ext_getElem?
        intro j
        rcases j with _ | j
        · simp [List.getElem?_drop, hlt]
        · rw [List.getElem?_eq_none (by rw [List.length_take]; omega)]; simp
      rw [hcell] at h1
      obtain ⟨l, hbs, hdl⟩ := open_bytes_d hf1 hb1 hC1 h1
      simp only [Prod.mk.injEq] at hx
      exact ⟨(x, cs[i * 2 + 1], l, y0.1, y1.1), fun _ => ⟨hc, hu, hbs, hx.1, hdl⟩⟩
    · exact ⟨(0, .slice none 0 0, [], .nil, .nil), fun h => absurd h hin⟩
  obtain ⟨f, hfk⟩ := Classical.axiomOfChoice key
  let es : List (Int × List UInt8) := (List.range n).map fun i => ((f i).1, (f i).2.2.1)
  let vs : List Value := (List.range n).map fun i => (f i).2.1
  have hel : es.length = n := by simp [es]
  have hvl : vs.length = n := by simp [vs]
  have hei : ∀ i, i < n → es[i]? = some ((f i).1, (f i).2.2.1) := fun i h => by simp [es, h]
  have hvi : ∀ i, i < n → vs[i]? = some (f i).2.1 := fun i h => by simp [vs, h]
  have e1 : cs = flat2 elCs es vs := by
    apply List.ext_getElem?
    intro j
    by_cases hj : j < n * 2
    · have hi2 : j / 2 < n := by omega
      obtain ⟨k0, k1, _⟩ := hfk (j / 2) hi2
      rcases Nat.mod_two_eq_zero_or_one j with hm | hm
      · have e := flat2_at elCs_len es vs (j / 2) _ _ 0 (by omega) (hei _ hi2) (hvi _ hi2) (by omega)
        rw [show j / 2 * 2 + 0 = j by omega] at e
        rw [show j / 2 * 2 = j by omega] at k0
        rw [e, k0]
        rfl
      · have e := flat2_at elCs_len es vs (j / 2) _ _ 1 (by omega) (hei _ hi2) (hvi _ hi2) (by omega)
        rw [show j / 2 * 2 + 1 = j by omega] at e k1
        rw [e, k1]
        rfl
    · rw [List.getElem?_eq_none (by omega), List.getElem?_eq_none (by rw [flat2_len elCs_len es vs (by omega)]; omega)]
  refine ⟨es, ⟨vs, by omega, by rw [← e1, hel]; exact hs, fun k e u he hu => ?_⟩, ?_, fun e he => ?_⟩
  · have hk : k < n := by have := (List.getElem?_eq_some_iff.1 he).1; omega
    rw [hei k hk] at he
    rw [hvi k hk] at hu
    obtain rfl := Option.some.inj he
    obtain rfl := Option.some.inj hu
    exact (hfk k hk).2.2.1
  · rw [hel]
    rcases hd with hd | ⟨sp, hd⟩
    · exact .inl hd
    · exact .inr ⟨_, _, hd, by simp⟩
  · obtain ⟨i, hi', rfl⟩ := List.getElem_of_mem he
    have hin : i < n := by omega
    have h1 := hei i hin
    rw [List.getElem?_eq_getElem hi'] at h1
    rw [Option.some.inj h1]
    obtain ⟨_, _, _, hD, hdl⟩ := hfk i hin
    rcases hd with hd | ⟨sp, hd⟩
    · omega
    · dsimp only at hd
      exact ⟨_, sp, _, _, hd, List.mem_map.2 ⟨i, List.mem_range.2 hin, hD⟩, hdl⟩
/-- Up to the bulk. -/
theorem bulk_inner {d : DataW H} {n : Nat} (h : ∃ elems sp d0 d1, d = .slice elems sp ∧ DataW.agg [d0, d1] ∈ elems ∧ DLen d1 n) : n ≤ Rows.uptoBulk d := by
  obtain ⟨elems, sp, d0, d1, rfl, hm, hn⟩ := h
  have h2 := bulk_len hn
  have h4 := bulk_mem hm
  simp only [Rows.uptoBulk, Rows.uptoBulkAll] at h4 ⊢
  omega
theorem weightsAll_mem {e : TypeId} : ∀ {l : List (DataW H)} {d : DataW H}, d ∈ l → ∀ n ∈ d.weights P e, n ∈ DataW.weightsAll P e l
  | d' :: r, d, hd, n, hn => by
    simp only [DataW.weightsAll, List.mem_append]
    rcases List.mem_cons.1 hd with rfl | h
    · exact Or.inl hn
    · exact Or.inr (weightsAll_mem h n hn)
/-- The form's own reach, of a slice in a field of a slice's element. -/
theorem reach_inner {ts : List TypeId} {ds : List (DataW H)} (h : (DataW.weightsEach P ts ds).all (· ≤ reachBytes) = true) {j : Nat} {t e q : TypeId} {f0 f1 : Field} {d : DataW H} {n : Nat} (ht : ts[j]? = some t) (hd : ds[j]? = some d)
    (hu : P.underlying t = some (.slice e)) (he : P.underlying e = some (.struct #[f0, f1])) (hq : P.underlying f1.type = some (.slice q)) (hn : ∃ elems sp d0 d1, d = .slice elems sp ∧ DataW.agg [d0, d1] ∈ elems ∧ DLen d1 n) : n * P.bytesOf q ≤ 140737488351232 := by
  obtain ⟨elems, sp, d0, d1, rfl, hm, hn⟩ := hn
  rcases hn with rfl | ⟨e2, s2, rfl, rfl⟩
  · simp
  · have h1 : (e2.length + s2.length) * P.bytesOf q ≤ reachBytes := by
      refine of_decide_eq_true (List.all_eq_true.1 h _ (DataW.weights_mem_each ht hd _ ?_))
      simp only [DataW.weights, hu, List.mem_cons, List.mem_append]
      exact Or.inr (Or.inl (weightsAll_mem hm _ (by simp [DataW.weights, DataW.weightsEach, he, hq])))
    have h2 : e2.length * P.bytesOf q ≤ (e2.length + s2.length) * P.bytesOf q := Nat.mul_le_mul_right _ (by omega)
    have h3 : reachBytes = 140737488351232 := rfl
    omega
theorem reach_str {ts : List TypeId} {ds : List (DataW H)} (h : (DataW.weightsEach P ts ds).all (· ≤ reachBytes) = true) {j : Nat} {t : TypeId} {nm : ByteArray} (ht : ts[j]? = some t) (hd : ds[j]? = some (.lit (.string nm.data.toList))) : nm.size ≤ 140737488351232 := by
  have h1 := sized_string h ht hd
  have h3 : reachBytes = 140737488351232 := rfl
  have h4 : nm.data.toList.length = nm.size := Array.length_toList
  omega
end
end Go.Proofs.Ytncenlmfhnljgaa
