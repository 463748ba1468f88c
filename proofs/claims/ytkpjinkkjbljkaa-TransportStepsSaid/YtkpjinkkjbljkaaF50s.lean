/- What the row of TransportSteps opens. -/
import Derived.Test.YtkpjinkkjbljkaaOctPlain
import Derived.Deep.Slices
import Derived.SizedLaws
import Derived.Test.YtkpjinkkjbljkaaTr1
import Derived.Test.YtkpjinkkjbljkaaTs4
import Derived.Test.YtkpjinkkjbljkaaSsA
namespace Go.Proofs.Ytkpjinkkjbljkaa
open Go.RowKit Go.ChangeShapes Go.WideShapes Go.ChangeAt Go.Deep

section
variable {H : Type} {enc : TypeId × Value → H} {P : Program} {W : World}

/-- How long the datum of an argument says that the slice is: n is at most that. -/
def DLen (d : DataW H) (n : Nat) : Prop := n = 0 ∨ ∃ elems spare, d = .slice elems spare ∧ elems.length = n

theorem open_sl {t e : TypeId} {size b0 : Nat} {r : Reach} {v : Value} {d : DataW H} {p : List MemPlace} (ht : P.underlying t = some (.slice e)) (hC : P.cellsOf e = size) (hpos : 0 < size) (hv : Value.okWide P W r b0 t v) (h : DataW.Trod enc P W 0 (fun _ => true) true t v d p) :
    ∃ (n : Nat) (cs : List Value), Sl W W.heap.size size v n cs ∧ DLen d n ∧ (∀ i, i < n → ∃ fuel y, DataW.trod enc P W 0 (fun _ => true) true fuel e ((cs.drop (i * size)).take size) = some y) := by
  obtain ⟨a0, len0, cap0, rfl⟩ := okWide_slice ht hv
  obtain ⟨fuel, hf⟩ := h
  rcases open_slice ht hf with ⟨hcs, hx⟩ | ⟨a, len, cap, m, n, D, Pl, hcs, _, hl, hm, hmm, hx, hi⟩
  · simp [Value.cells] at hcs
    obtain ⟨rfl, rfl, rfl⟩ := hcs
    exact ⟨0, [], Sl.nil _ _ _, .inl rfl, fun i hi => absurd hi (by omega)⟩
  · simp [Value.cells] at hcs
    obtain ⟨rfl, rfl, rfl⟩ := hcs
    simp only [if_true] at hmm
    subst hmm
    simp only [Prod.mk.injEq] at hx
    obtain ⟨b, off, spot⟩ := a
    have hspot : len0 = 0 ∨ spot = none := by
      rcases Nat.eq_zero_or_pos len0 with h0 | h0
      · exact .inl h0
      · obtain ⟨cs', hc, _⟩ := hi 0 (by omega)
        rw [hC] at hc
        obtain ⟨_, hcl, hat⟩ := World.cells?_some hc
        have h1 := hat 0 hpos
        have h2 : cs'[0]? = some (cs'[0]'(by omega)) := List.getElem?_eq_getElem (by omega)
        rw [h2] at h1
        have h3 := World.cell?_spot h1
        simp [Addr.add] at h3
        exact .inr h3
    rcases hspot with h0 | rfl
    · subst h0
      exact ⟨0, [], ⟨_, _, rfl, by omega, hm, by simp, .inl rfl⟩, .inl rfl, fun i hi => absurd hi (by omega)⟩
    · let f : Nat → Value := fun j => (W.cell? ⟨b, off + j, none⟩).getD undef
      have hadd : ∀ j, (⟨b, off, none⟩ : Addr).add j = ⟨b, off + j, none⟩ := fun j => by unfold Addr.add; split <;> simp_all
      have hat : ∀ i j, i < len0 → j < size → W.cell? ⟨b, off + (i * size + j), none⟩ = some (f (i * size + j)) := by
        intro i j hi' hj
        obtain ⟨cs', hc, _⟩ := hi i (by omega)
        rw [hC] at hc
        obtain ⟨_, hcl, hat⟩ := World.cells?_some hc
        have h1 := hat j hj
        rw [add_add, hadd, List.getElem?_eq_getElem (by omega)] at h1
        show _ = some ((W.cell? ⟨b, off + (i * size + j), none⟩).getD undef)
        rw [h1]; rfl
      refine ⟨len0, (List.range (len0 * size)).map f, ⟨_, _, rfl, hl, hm, by simp, ?_⟩, .inr ⟨_, _, hx.1, by simp⟩, fun i hi' => ?_⟩
      · rcases Nat.eq_zero_or_pos len0 with h0 | h0
        · subst h0; exact .inl (by simp)
        · refine .inr ⟨b, off, rfl, ?_, fun k u hk => ?_⟩
          · have h1 := hat 0 0 h0 hpos
            rcases Nat.lt_or_ge b W.heap.size with h | h
            · exact h
            · simp [World.cell?, Array.getElem?_eq_none h] at h1
          · have hk' : k < len0 * size := by
              rcases Nat.lt_or_ge k (len0 * size) with h | h
              · exact h
              · rw [List.getElem?_eq_none (by simpa using h)] at hk; cases hk
            have hd : k / size < len0 := Nat.div_lt_of_lt_mul (by rw [Nat.mul_comm]; exact hk')
            have h1 := hat (k / size) (k % size) hd (Nat.mod_lt _ hpos)
            rw [Nat.div_add_mod' k size] at h1
            rw [h1]
            simpa [hk'] using hk
      · obtain ⟨cs', hc, ht'⟩ := hi i (by omega)
        rw [hC] at hc
        obtain ⟨_, hcl, hat'⟩ := World.cells?_some hc
        have e : (((List.range (len0 * size)).map f).drop (i * size)).take size = cs' := by
          have hle : i * size + size ≤ len0 * size := by
            have := Nat.mul_le_mul_right size (show i + 1 ≤ len0 by omega)
            rw [Nat.add_mul] at this
            omega
          apply List.ext_getElem?
          intro j
          by_cases hj : j < size
          · rw [List.getElem?_take_of_lt hj, List.getElem?_drop]
            have h1 := hat' j hj
            rw [add_add, hadd] at h1
            have h2 := hat i j hi' hj
            rw [h2] at h1
            rw [← h1]
            simp [show i * size + j < len0 * size by omega]
          · rw [List.getElem?_eq_none (by simp; omega), List.getElem?_eq_none (by omega)]
        rw [e]
        exact ⟨_, _, ht'⟩

def byteOf : Value → UInt8
  | .int _ n => UInt8.ofNat n.toNat
  | _ => 0
def intOfV : Value → Int
  | .int _ n => n
  | _ => 0

theorem open_bytes {t e : TypeId} {b0 : Nat} {r : Reach} {v : Value} {d : DataW H} {p : List MemPlace} (ht : P.underlying t = some (.slice e)) (he : P.underlying e = some (.int .u8)) (hC : P.cellsOf e = 1) (hv : Value.okWide P W r b0 t v) (h : DataW.Trod enc P W 0 (fun _ => true) true t v d p) :
    ∃ l : List UInt8, BS W W.heap.size v l ∧ DLen d l.length := by
  obtain ⟨n, cs, hs, hd, hi⟩ := open_sl ht hC (by omega) hv h
  have hl := hs.len
  have e1 : cs = bys (cs.map byteOf) := by
    apply List.ext_getElem?
    intro i
    by_cases hin : i < n
    · obtain ⟨fuel, y, hy⟩ := hi i hin
      obtain ⟨x, hx, _, hw⟩ := DataW.trod_int he hy
      have hc : cs[i]? = some (.int .u8 x) := by
        have := congrArg (·[0]?) hx
        simpa [List.getElem?_take, List.getElem?_drop] using this
      have hb : 0 ≤ x ∧ x ≤ 255 := by simpa [Lit.wf, IntKind.min, IntKind.max, IntKind.signed, IntKind.bits] using hw
      simp only [bys, List.map_map, List.getElem?_map, hc, Option.map_some, Function.comp, byteOf]
      congr 2
      rw [UInt8.toNat_ofNat']
      omega
    · rw [List.getElem?_eq_none (by omega), List.getElem?_eq_none (by simp [bys]; omega)]
  refine ⟨cs.map byteOf, ?_, by rw [List.length_map, hl, Nat.mul_one]; exact hd⟩
  unfold BS
  rw [← e1, List.length_map, show cs.length = n by omega]
  exact hs

theorem open_ints_sl {t e : TypeId} {b0 : Nat} {r : Reach} {v : Value} {d : DataW H} {p : List MemPlace} (ht : P.underlying t = some (.slice e)) (he : P.underlying e = some (.int .i64)) (hC : P.cellsOf e = 1) (hv : Value.okWide P W r b0 t v) (h : DataW.Trod enc P W 0 (fun _ => true) true t v d p) :
    ∃ l : List Int, Sl W W.heap.size 1 v l.length (ints l) ∧ DLen d l.length ∧ ∀ x ∈ l, -9223372036854775808 ≤ x ∧ x ≤ 9223372036854775807 := by
  obtain ⟨n, cs, hs, hd, hi⟩ := open_sl ht hC (by omega) hv h
  have hl := hs.len
  have key : ∀ i, i < n → ∃ x : Int, cs[i]? = some (.int .i64 x) ∧ -9223372036854775808 ≤ x ∧ x ≤ 9223372036854775807 := by
    intro i hin
    obtain ⟨fuel, y, hy⟩ := hi i hin
    obtain ⟨x, hx, _, hw⟩ := DataW.trod_int he hy
    have hc : cs[i]? = some (.int .i64 x) := by
      have := congrArg (·[0]?) hx
      simpa [List.getElem?_take, List.getElem?_drop] using this
    exact ⟨x, hc, by simpa [Lit.wf, IntKind.min, IntKind.max, IntKind.signed, IntKind.bits] using hw⟩
  have e1 : cs = ints (cs.map intOfV) := by
    apply List.ext_getElem?
    intro i
    by_cases hin : i < n
    · obtain ⟨x, hc, _⟩ := key i hin
      simp [ints, hc, intOfV]
    · rw [List.getElem?_eq_none (by omega), List.getElem?_eq_none (by simp [ints]; omega)]
  refine ⟨cs.map intOfV, ?_, by rw [List.length_map, hl, Nat.mul_one]; exact hd, ?_⟩
  · rw [← e1, List.length_map, show cs.length = n by omega]
    exact hs
  · intro x hx
    rw [List.mem_map] at hx
    obtain ⟨v, hv, rfl⟩ := hx
    obtain ⟨i, hi', rfl⟩ := List.getElem_of_mem hv
    obtain ⟨x, hc, hb⟩ := key i (by omega)
    rw [List.getElem?_eq_getElem hi'] at hc
    rw [Option.some.inj hc]
    exact hb

theorem open_fields {t e : TypeId} {f0 f1 : Field} {b0 : Nat} {r : Reach} {v : Value} {d : DataW H} {p : List MemPlace} (ht : P.underlying t = some (.slice e)) (he : P.underlying e = some (.struct #[f0, f1])) (hC : P.cellsOf e = 2) (ho0 : f0.offset = 0) (ho1 : f1.offset = 1) (hc0 : P.cellsOf f0.type = 1) (hc1 : P.cellsOf f1.type = 1)
    (hf0 : P.underlying f0.type = some (.int .i64)) (hf1 : P.underlying f1.type = some (.int .u64)) (hv : Value.okWide P W r b0 t v) (h : DataW.Trod enc P W 0 (fun _ => true) true t v d p) :
    ∃ l : List (Int × Nat), Sl W W.heap.size 2 v l.length (flds l) ∧ DLen d l.length ∧ (∀ f ∈ l, f.2 < 2 ^ 64) ∧ ∀ f ∈ l, -9223372036854775808 ≤ f.1 ∧ f.1 ≤ 9223372036854775807 := by
  obtain ⟨n, cs, hs, hd, hi⟩ := open_sl ht hC (by omega) hv h
  have hl := hs.len
  have key : ∀ i, i < n → ∃ (x : Int) (y : Nat), cs[i * 2]? = some (.int .i64 x) ∧ cs[i * 2 + 1]? = some (.int .u64 (y : Int)) ∧ y < 2 ^ 64 ∧ -9223372036854775808 ≤ x ∧ x ≤ 9223372036854775807 := by
    intro i hin
    obtain ⟨fuel, y, hy⟩ := hi i hin
    obtain ⟨y0, y1, m, _, _, h0, h1⟩ := trod_struct2 he hy
    rw [ho0, hc0] at h0
    rw [ho1, hc1] at h1
    obtain ⟨x, hx, _, hw⟩ := DataW.trod_int hf0 h0
    obtain ⟨z, hz, _, hwz⟩ := DataW.trod_int hf1 h1
    have hc : cs[i * 2]? = some (.int .i64 x) := by
      have := congrArg (·[0]?) hx
      simpa [List.getElem?_take, List.getElem?_drop] using this
    have hc' : cs[i * 2 + 1]? = some (.int .u64 z) := by
      have := congrArg (·[0]?) hz
      simpa [List.getElem?_take, List.getElem?_drop] using this
    have hwz' : 0 ≤ z ∧ z ≤ 18446744073709551615 := by simpa [Lit.wf, IntKind.min, IntKind.max, IntKind.signed, IntKind.bits] using hwz
    have hw' : -9223372036854775808 ≤ x ∧ x ≤ 9223372036854775807 := by simpa [Lit.wf, IntKind.min, IntKind.max, IntKind.signed, IntKind.bits] using hw
    refine ⟨x, z.toNat, hc, ?_, by omega, hw'⟩
    rw [hc']
    congr 2
    omega
  let num : Option Value → Int := fun v => match v with | some (.int _ n) => n | _ => 0
  let l : List (Int × Nat) := (List.range n).map fun i => (num cs[i * 2]?, (num cs[i * 2 + 1]?).toNat)
  have hll : l.length = n := by simp [l]
  have hli : ∀ i (h : i < n), l[i]? = some (num cs[i * 2]?, (num cs[i * 2 + 1]?).toNat) := by intro i h; simp [l, h]
  have e1 : cs = flds l := by
    apply List.ext_getElem?
    intro i
    by_cases hin : i < n * 2
    · have hi2 : i / 2 < n := by omega
      obtain ⟨x, y, h0, h1, _⟩ := key (i / 2) hi2
      have hat := flds_at (l := l) (k := i / 2) (by omega)
      have hlx := hli (i / 2) hi2
      rw [List.getElem?_eq_getElem (by omega)] at hlx
      have hlx := Option.some.inj hlx
      rw [hlx] at hat
      rcases Nat.mod_two_eq_zero_or_one i with hm | hm
      · have e : i = i / 2 * 2 := by omega
        rw [e, h0, hat.1, h0]
      · have e : i = i / 2 * 2 + 1 := by omega
        rw [e, h1, hat.2, h1]
        simp [num]
    · rw [List.getElem?_eq_none (by omega), List.getElem?_eq_none (by rw [flds_length]; omega)]
  have each : ∀ f ∈ l, ∃ i, i < n ∧ f = (num cs[i * 2]?, (num cs[i * 2 + 1]?).toNat) := by
    intro f hf
    simp only [l, List.mem_map, List.mem_range] at hf
    obtain ⟨i, hi', rfl⟩ := hf
    exact ⟨i, hi', rfl⟩
  refine ⟨l, by rw [← e1, hll]; exact hs, by rw [hll]; exact hd, fun f hf => ?_, fun f hf => ?_⟩
  · obtain ⟨i, hi', rfl⟩ := each f hf
    obtain ⟨x, y, h0, h1, hy, _⟩ := key i hi'
    simp only [h1, num]
    simpa using hy
  · obtain ⟨i, hi', rfl⟩ := each f hf
    obtain ⟨x, y, h0, h1, _, hb⟩ := key i hi'
    simp only [h0, num]
    exact hb

/-- The form's own reach: a slice takes at most 2^47 - 4096 bytes. -/
theorem reach_len {ts : List TypeId} {ds : List (DataW H)} (h : (DataW.weightsEach P ts ds).all (· ≤ reachBytes) = true) {j : Nat} {t e : TypeId} {d : DataW H} {n : Nat} (ht : ts[j]? = some t) (hd : ds[j]? = some d) (hu : P.underlying t = some (.slice e)) (hn : DLen d n) : n * P.bytesOf e ≤ 140737488351232 := by
  rcases hn with rfl | ⟨elems, spare, rfl, rfl⟩
  · simp
  · have h1 := sized_slice h ht hd hu
    have h2 : elems.length * P.bytesOf e ≤ (elems.length + spare.length) * P.bytesOf e := Nat.mul_le_mul_right _ (by omega)
    have h3 : reachBytes = 140737488351232 := rfl
    omega
/-- The second form's bound. -/
theorem bulk_len {d : DataW H} {n : Nat} (hn : DLen d n) : n ≤ Rows.uptoBulk d := by
  rcases hn with rfl | ⟨elems, spare, rfl, rfl⟩
  · omega
  · have one : ∀ d : DataW H, 1 ≤ Rows.uptoBulk d := by
      intro d
      cases d with
      | lit l => cases l <;> simp [Rows.uptoBulk]
      | nil => simp [Rows.uptoBulk]
      | ptr d => simp [Rows.uptoBulk]
      | slice elems spare => simp [Rows.uptoBulk]
      | agg parts => simp [Rows.uptoBulk]
      | iface t d => simp [Rows.uptoBulk]
      | map entries => simp [Rows.uptoBulk]
      | held h => simp [Rows.uptoBulk]
    have all : ∀ l : List (DataW H), l.length ≤ Rows.uptoBulkAll l := by
      intro l
      induction l with
      | nil => simp [Rows.uptoBulkAll]
      | cons x r ih => have := one x; simp only [Rows.uptoBulkAll, List.length_cons]; omega
    have := all elems
    simp only [Rows.uptoBulk]
    omega
end

section
variable {H : Type} {enc : TypeId × Value → H} {P : Program} {W : World}
theorem open_sl_cells {t e : TypeId} {size fuel : Nat} {v : Value} {x : DataW H × List MemPlace} (ht : P.underlying t = some (.slice e)) (hC : P.cellsOf e = size) (hpos : 0 < size) (hf : DataW.trod enc P W 0 (fun _ => true) true fuel t [v] = some x) :
    ∃ (n : Nat) (cs : List Value), Sl W W.heap.size size v n cs ∧ (∀ i, i < n → ∃ fuel y, DataW.trod enc P W 0 (fun _ => true) true fuel e ((cs.drop (i * size)).take size) = some y) := by
  rcases open_slice ht hf with ⟨hcs, hx⟩ | ⟨a, len0, cap0, m, n, D, Pl, hcs, _, hl, hm, hmm, hx, hi⟩
  · simp only [List.cons.injEq, and_true] at hcs
    subst hcs
    exact ⟨0, [], Sl.nil _ _ _, fun i hi => absurd hi (by omega)⟩
  · simp only [List.cons.injEq, and_true] at hcs
    subst hcs
    simp only [if_true] at hmm
    subst hmm
    clear hx
    obtain ⟨b, off, spot⟩ := a
    have hspot : len0 = 0 ∨ spot = none := by
      rcases Nat.eq_zero_or_pos len0 with h0 | h0
      · exact .inl h0
      · obtain ⟨cs', hc, _⟩ := hi 0 (by omega)
        rw [hC] at hc
        obtain ⟨_, hcl, hat⟩ := World.cells?_some hc
        have h1 := hat 0 hpos
        have h2 : cs'[0]? = some (cs'[0]'(by omega)) := List.getElem?_eq_getElem (by omega)
        rw [h2] at h1
        have h3 := World.cell?_spot h1
        simp [Addr.add] at h3
        exact .inr h3
    rcases hspot with h0 | rfl
    · subst h0
      exact ⟨0, [], ⟨_, _, rfl, by omega, hm, by simp, .inl rfl⟩, fun i hi => absurd hi (by omega)⟩
    · let f : Nat → Value := fun j => (W.cell? ⟨b, off + j, none⟩).getD undef
      have hadd : ∀ j, (⟨b, off, none⟩ : Addr).add j = ⟨b, off + j, none⟩ := fun j => by unfold Addr.add; split <;> simp_all
      have hat : ∀ i j, i < len0 → j < size → W.cell? ⟨b, off + (i * size + j), none⟩ = some (f (i * size + j)) := by
        intro i j hi' hj
        obtain ⟨cs', hc, _⟩ := hi i (by omega)
        rw [hC] at hc
        obtain ⟨_, hcl, hat⟩ := World.cells?_some hc
        have h1 := hat j hj
        rw [add_add, hadd, List.getElem?_eq_getElem (by omega)] at h1
        show _ = some ((W.cell? ⟨b, off + (i * size + j), none⟩).getD undef)
        rw [h1]; rfl
      refine ⟨len0, (List.range (len0 * size)).map f, ⟨_, _, rfl, hl, hm, by simp, ?_⟩, fun i hi' => ?_⟩
      · rcases Nat.eq_zero_or_pos len0 with h0 | h0
        · subst h0; exact .inl (by simp)
        · refine .inr ⟨b, off, rfl, ?_, fun k u hk => ?_⟩
          · have h1 := hat 0 0 h0 hpos
            rcases Nat.lt_or_ge b W.heap.size with h | h
            · exact h
            · simp [World.cell?, Array.getElem?_eq_none h] at h1
          · have hk' : k < len0 * size := by
              rcases Nat.lt_or_ge k (len0 * size) with h | h
              · exact h
              · rw [List.getElem?_eq_none (by simpa using h)] at hk; cases hk
            have hd : k / size < len0 := Nat.div_lt_of_lt_mul (by rw [Nat.mul_comm]; exact hk')
            have h1 := hat (k / size) (k % size) hd (Nat.mod_lt _ hpos)
            rw [Nat.div_add_mod' k size] at h1
            rw [h1]
            simpa [hk'] using hk
      · obtain ⟨cs', hc, ht'⟩ := hi i (by omega)
        rw [hC] at hc
        obtain ⟨_, hcl, hat'⟩ := World.cells?_some hc
        have e : (((List.range (len0 * size)).map f).drop (i * size)).take size = cs' := by
          have hle : i * size + size ≤ len0 * size := by
            have := Nat.mul_le_mul_right size (show i + 1 ≤ len0 by omega)
            rw [Nat.add_mul] at this
            omega
          apply List.ext_getElem?
          intro j
          by_cases hj : j < size
          · rw [List.getElem?_take_of_lt hj, List.getElem?_drop]
            have h1 := hat' j hj
            rw [add_add, hadd] at h1
            have h2 := hat i j hi' hj
            rw [h2] at h1
            rw [← h1]
            simp [show i * size + j < len0 * size by omega]
          · rw [List.getElem?_eq_none (by simp; omega), List.getElem?_eq_none (by omega)]
        rw [e]
        exact ⟨_, _, ht'⟩

theorem open_bytes_cells {t e : TypeId} {fuel : Nat} {v : Value} {x : DataW H × List MemPlace} (ht : P.underlying t = some (.slice e)) (he : P.underlying e = some (.int .u8)) (hC : P.cellsOf e = 1) (hf : DataW.trod enc P W 0 (fun _ => true) true fuel t [v] = some x) :
    ∃ l : List UInt8, BS W W.heap.size v l := by
  obtain ⟨n, cs, hs, hi⟩ := open_sl_cells ht hC (by omega) hf
  have hl := hs.len
  have e1 : cs = bys (cs.map byteOf) := by
    apply List.ext_getElem?
    intro i
    by_cases hin : i < n
    · obtain ⟨fuel, y, hy⟩ := hi i hin
      obtain ⟨x, hx, _, hw⟩ := DataW.trod_int he hy
      have hc : cs[i]? = some (.int .u8 x) := by
        have := congrArg (·[0]?) hx
        simpa [List.getElem?_take, List.getElem?_drop] using this
      have hb : 0 ≤ x ∧ x ≤ 255 := by simpa [Lit.wf, IntKind.min, IntKind.max, IntKind.signed, IntKind.bits] using hw
      simp only [bys, List.map_map, List.getElem?_map, hc, Option.map_some, Function.comp, byteOf]
      congr 2
      rw [UInt8.toNat_ofNat']
      omega
    · rw [List.getElem?_eq_none (by omega), List.getElem?_eq_none (by simp [bys]; omega)]
  refine ⟨cs.map byteOf, ?_⟩
  unfold BS
  rw [← e1, List.length_map, show cs.length = n by omega]
  exact hs

end
theorem at_of_take {l : List Value} {o : Nat} {v : Value} (h : (l.drop o).take 1 = [v]) : l[o]? = some v := by
  have := congrArg (fun l : List Value => l[0]?) h
  simpa [List.getElem?_take, List.getElem?_drop] using this
theorem at_nest {l : List Value} {o c j : Nat} {v : Value} (h : ((l.drop o).take c)[j]? = some v) : l[o + j]? = some v := by
  rw [List.getElem?_take] at h
  split at h
  · rwa [List.getElem?_drop] at h
  · cases h
section
variable {H : Type} {enc : TypeId × Value → H} {P : Program} {w : World} {base n : Nat} {sp : Nat → Bool} {held : Bool} {xs : List (DataW H × List MemPlace)}
theorem leaf {t : TypeId} {l : List Value} {o i c : Nat} (h : DataW.trod enc P w base sp held n t ((l.drop o).take c) = xs[i]?) (hi : i < xs.length) : ∃ y, DataW.trod enc P w base sp held n t ((l.drop o).take c) = some y := ⟨_, h.trans (List.getElem?_eq_getElem hi)⟩
theorem leaf_int {t : TypeId} {k : IntKind} {l : List Value} {o i : Nat} (ht : P.underlying t = some (.int k)) (h : DataW.trod enc P w base sp held n t ((l.drop o).take 1) = xs[i]?) (hi : i < xs.length) : ∃ x, l[o]? = some (.int k x) ∧ (Lit.int k x).wf = true := by
  obtain ⟨y, hy⟩ := leaf h hi
  obtain ⟨x, h1, _, h2⟩ := DataW.trod_int ht hy
  exact ⟨x, at_of_take h1, h2⟩
theorem leaf_bool {t : TypeId} {l : List Value} {o i : Nat} (ht : P.underlying t = some .bool) (h : DataW.trod enc P w base sp held n t ((l.drop o).take 1) = xs[i]?) (hi : i < xs.length) : ∃ x, l[o]? = some (.bool x) := by
  obtain ⟨y, hy⟩ := leaf h hi
  obtain ⟨x, h1, _⟩ := DataW.trod_bool ht hy
  exact ⟨x, at_of_take h1⟩
end


set_option maxRecDepth 100000 in
/-- A PDU out of the cells of its fields. -/
theorem open_low_cells {H : Type} {enc : TypeId × Value → H} {w : World} {fuel : Nat} {l : List Value} {x : DataW H × List MemPlace} (hl : l.length = 10)
    (hf : DataW.trod enc Try.prog w 0 (fun _ => true) true fuel 25 l = some x) : ∃ (p : Low) (v : Value) (bl : List UInt8), l = [.bool p.ctl, .bool p.seg, .bool p.app, .int .i64 p.zero, .int .i64 p.idx, .int .i64 p.last, .int .i64 p.op, .int .u32 (p.blk : Int), .bool p.fr, v] ∧ BS w w.heap.size v bl ∧ p.blk < 4294967296 := by
  obtain ⟨ys, n, _, _, _, hlen, hg⟩ := DataW.trod_struct Try.underlying25 hf
  have hlen' : ys.length = 10 := hlen
  have e0 : DataW.trod enc Try.prog w 0 (fun _ => true) true n 4 ((l.drop 0).take 1) = ys[0]? := hg 0 _ rfl
  have e1 : DataW.trod enc Try.prog w 0 (fun _ => true) true n 4 ((l.drop 1).take 1) = ys[1]? := hg 1 _ rfl
  have e2 : DataW.trod enc Try.prog w 0 (fun _ => true) true n 4 ((l.drop 2).take 1) = ys[2]? := hg 2 _ rfl
  have e3 : DataW.trod enc Try.prog w 0 (fun _ => true) true n 3 ((l.drop 3).take 1) = ys[3]? := hg 3 _ rfl
  have e4 : DataW.trod enc Try.prog w 0 (fun _ => true) true n 3 ((l.drop 4).take 1) = ys[4]? := hg 4 _ rfl
  have e5 : DataW.trod enc Try.prog w 0 (fun _ => true) true n 3 ((l.drop 5).take 1) = ys[5]? := hg 5 _ rfl
  have e6 : DataW.trod enc Try.prog w 0 (fun _ => true) true n 3 ((l.drop 6).take 1) = ys[6]? := hg 6 _ rfl
  have e7 : DataW.trod enc Try.prog w 0 (fun _ => true) true n 22 ((l.drop 7).take 1) = ys[7]? := hg 7 _ rfl
  have e8 : DataW.trod enc Try.prog w 0 (fun _ => true) true n 4 ((l.drop 8).take 1) = ys[8]? := hg 8 _ rfl
  have e9 : DataW.trod enc Try.prog w 0 (fun _ => true) true n 23 ((l.drop 9).take 1) = ys[9]? := hg 9 _ rfl
  obtain ⟨x0, c0⟩ := leaf_bool Try.underlying4 e0 (by omega)
  obtain ⟨x1, c1⟩ := leaf_bool Try.underlying4 e1 (by omega)
  obtain ⟨x2, c2⟩ := leaf_bool Try.underlying4 e2 (by omega)
  obtain ⟨x3, c3, _⟩ := leaf_int Try.underlying3 e3 (by omega)
  obtain ⟨x4, c4, _⟩ := leaf_int Try.underlying3 e4 (by omega)
  obtain ⟨x5, c5, _⟩ := leaf_int Try.underlying3 e5 (by omega)
  obtain ⟨x6, c6, _⟩ := leaf_int Try.underlying3 e6 (by omega)
  obtain ⟨x7, c7, w7⟩ := leaf_int Try.underlying22 e7 (by omega)
  obtain ⟨x8, c8⟩ := leaf_bool Try.underlying4 e8 (by omega)
  obtain ⟨y9, hy9⟩ := leaf e9 (by omega)
  obtain ⟨v, hv⟩ : ∃ v, l[9]? = some v := ⟨_, List.getElem?_eq_getElem (by omega)⟩
  have hcell : (l.drop 9).take 1 = [v] := by
    have h9 : 9 < l.length := by omega
    rw [List.getElem?_eq_getElem h9] at hv
    rw [List.drop_eq_getElem_cons h9, Option.some.inj hv]
    simp
  rw [hcell] at hy9
  obtain ⟨bl, hbl⟩ := open_bytes_cells Try.underlying23 Try.underlying5 (by kernel_rfl) hy9
  have r7 : 0 ≤ x7 ∧ x7 ≤ 4294967295 := by simpa [Lit.wf, IntKind.min, IntKind.max, IntKind.signed, IntKind.bits] using w7
  obtain ⟨n7, rfl⟩ := Int.eq_ofNat_of_zero_le r7.1
  refine ⟨⟨x0, x1, x2, x3, x4, x5, x6, n7, x8⟩, v, bl, ?_, hbl, by show n7 < _; omega⟩
  apply List.ext_getElem?
  intro j
  match j with
  | 0 => simpa using c0
  | 1 => simpa using c1
  | 2 => simpa using c2
  | 3 => simpa using c3
  | 4 => simpa using c4
  | 5 => simpa using c5
  | 6 => simpa using c6
  | 7 => simpa using c7
  | 8 => simpa using c8
  | 9 => simpa using hv
  | j + 10 => rw [List.getElem?_eq_none (by omega), List.getElem?_eq_none (by simp)]
set_option maxRecDepth 100000 in
/-- A PDU by value. -/
theorem open_low {H : Type} {enc : TypeId × Value → H} {w : World} {r : Reach} {b0 : Nat} {v : Value} {d : DataW H} {p : List MemPlace}
    (hv : Value.okWide Try.prog w r b0 25 v) (h : DataW.Trod enc Try.prog w 0 (fun _ => true) true 25 v d p) : ∃ (q : Low) (u : Value) (bl : List UInt8), v = lowV q u ∧ BS w w.heap.size u bl ∧ q.blk < 4294967296 := by
  obtain ⟨cs, rfl, hsz⟩ := okWide_struct Try.underlying25 hv
  rw [show Try.prog.cellsOf 25 = 10 by kernel_rfl] at hsz
  obtain ⟨fuel, hf⟩ := h
  obtain ⟨q, u, bl, hl, hb, hq⟩ := open_low_cells (l := cs.toList) (by simpa using hsz) hf
  refine ⟨q, u, bl, ?_, hb, hq⟩
  have e : cs = #[.bool q.ctl, .bool q.seg, .bool q.app, .int .i64 q.zero, .int .i64 q.idx, .int .i64 q.last, .int .i64 q.op, .int .u32 (q.blk : Int), .bool q.fr, u] := by
    rw [← Array.toList_inj, hl]
  rw [e]

set_option maxRecDepth 100000 in
/-- A message out of the cells of its fields. -/
theorem open_acc_cells {H : Type} {enc : TypeId × Value → H} {w : World} {fuel : Nat} {l : List Value} {x : DataW H × List MemPlace} (hl : l.length = 8)
    (hf : DataW.trod enc Try.prog w 0 (fun _ => true) true fuel 43 l = some x) : ∃ (p : AccS) (v : Value) (bl : List UInt8), l = accCs p v ∧ BS w w.heap.size v bl ∧ p.seq < 4294967296 := by
  obtain ⟨ys, n, _, _, _, hlen, hg⟩ := DataW.trod_struct Try.underlying43 hf
  have hlen' : ys.length = 6 := hlen
  have e0 : DataW.trod enc Try.prog w 0 (fun _ => true) true n 39 ((l.drop 0).take 1) = ys[0]? := hg 0 _ rfl
  have e1 : DataW.trod enc Try.prog w 0 (fun _ => true) true n 39 ((l.drop 1).take 1) = ys[1]? := hg 1 _ rfl
  have e2 : DataW.trod enc Try.prog w 0 (fun _ => true) true n 4 ((l.drop 2).take 1) = ys[2]? := hg 2 _ rfl
  have e3 : DataW.trod enc Try.prog w 0 (fun _ => true) true n 3 ((l.drop 3).take 1) = ys[3]? := hg 3 _ rfl
  have e4 : DataW.trod enc Try.prog w 0 (fun _ => true) true n 41 ((l.drop 4).take 3) = ys[4]? := hg 4 _ rfl
  have e5 : DataW.trod enc Try.prog w 0 (fun _ => true) true n 23 ((l.drop 7).take 1) = ys[5]? := hg 5 _ rfl
  obtain ⟨x0, c0, w0⟩ := leaf_int Try.underlying39 e0 (by omega)
  obtain ⟨x1, c1, w1⟩ := leaf_int Try.underlying39 e1 (by omega)
  obtain ⟨x2, c2⟩ := leaf_bool Try.underlying4 e2 (by omega)
  obtain ⟨x3, c3, _⟩ := leaf_int Try.underlying3 e3 (by omega)
  obtain ⟨y4, hy4⟩ := leaf e4 (by omega)
  obtain ⟨zs, n4, _, _, _, hlen4, hg4⟩ := DataW.trod_struct Try.underlying41 hy4
  have hlen4' : zs.length = 3 := hlen4
  have g0 : DataW.trod enc Try.prog w 0 (fun _ => true) true n4 39 ((((l.drop 4).take 3).drop 0).take 1) = zs[0]? := hg4 0 _ rfl
  have g1 : DataW.trod enc Try.prog w 0 (fun _ => true) true n4 22 ((((l.drop 4).take 3).drop 1).take 1) = zs[1]? := hg4 1 _ rfl
  have g2 : DataW.trod enc Try.prog w 0 (fun _ => true) true n4 22 ((((l.drop 4).take 3).drop 2).take 1) = zs[2]? := hg4 2 _ rfl
  obtain ⟨x4, c4', w4⟩ := leaf_int Try.underlying39 g0 (by omega)
  obtain ⟨x5, c5', w5⟩ := leaf_int Try.underlying22 g1 (by omega)
  obtain ⟨x6, c6', w6⟩ := leaf_int Try.underlying22 g2 (by omega)
  have c4 := at_nest c4'
  have c5 := at_nest c5'
  have c6 := at_nest c6'
  obtain ⟨y7, hy7⟩ := leaf e5 (by omega)
  obtain ⟨v, hv⟩ : ∃ v, l[7]? = some v := ⟨_, List.getElem?_eq_getElem (by omega)⟩
  have hcell : (l.drop 7).take 1 = [v] := by
    have h7 : 7 < l.length := by omega
    rw [List.getElem?_eq_getElem h7] at hv
    rw [List.drop_eq_getElem_cons h7, Option.some.inj hv]
    simp
  rw [hcell] at hy7
  obtain ⟨bl, hbl⟩ := open_bytes_cells Try.underlying23 Try.underlying5 (by kernel_rfl) hy7
  have r0 : 0 ≤ x0 := by have : 0 ≤ x0 ∧ x0 ≤ 65535 := by simpa [Lit.wf, IntKind.min, IntKind.max, IntKind.signed, IntKind.bits] using w0
                         omega
  have r1 : 0 ≤ x1 := by have : 0 ≤ x1 ∧ x1 ≤ 65535 := by simpa [Lit.wf, IntKind.min, IntKind.max, IntKind.signed, IntKind.bits] using w1
                         omega
  have r4 : 0 ≤ x4 := by have : 0 ≤ x4 ∧ x4 ≤ 65535 := by simpa [Lit.wf, IntKind.min, IntKind.max, IntKind.signed, IntKind.bits] using w4
                         omega
  have r5 : 0 ≤ x5 := by have : 0 ≤ x5 ∧ x5 ≤ 4294967295 := by simpa [Lit.wf, IntKind.min, IntKind.max, IntKind.signed, IntKind.bits] using w5
                         omega
  have r6 : 0 ≤ x6 ∧ x6 ≤ 4294967295 := by simpa [Lit.wf, IntKind.min, IntKind.max, IntKind.signed, IntKind.bits] using w6
  obtain ⟨n0, rfl⟩ := Int.eq_ofNat_of_zero_le r0
  obtain ⟨n1, rfl⟩ := Int.eq_ofNat_of_zero_le r1
  obtain ⟨m4, rfl⟩ := Int.eq_ofNat_of_zero_le r4
  obtain ⟨n5, rfl⟩ := Int.eq_ofNat_of_zero_le r5
  obtain ⟨n6, rfl⟩ := Int.eq_ofNat_of_zero_le r6.1
  refine ⟨⟨n0, n1, x2, x3, m4, n5, n6⟩, v, bl, ?_, hbl, by show n6 < _; omega⟩
  apply List.ext_getElem?
  intro j
  match j with
  | 0 => simpa using c0
  | 1 => simpa using c1
  | 2 => simpa using c2
  | 3 => simpa using c3
  | 4 => simpa using c4
  | 5 => simpa using c5
  | 6 => simpa using c6
  | 7 => simpa using hv
  | j + 8 => rw [List.getElem?_eq_none (by omega), List.getElem?_eq_none (by simp)]
set_option maxRecDepth 100000 in
/-- A message by value. -/
theorem open_acc {H : Type} {enc : TypeId × Value → H} {w : World} {r : Reach} {b0 : Nat} {v : Value} {d : DataW H} {p : List MemPlace}
    (hv : Value.okWide Try.prog w r b0 43 v) (h : DataW.Trod enc Try.prog w 0 (fun _ => true) true 43 v d p) : ∃ (q : AccS) (u : Value) (bl : List UInt8), v = accV q u ∧ BS w w.heap.size u bl ∧ q.seq < 4294967296 := by
  obtain ⟨cs, rfl, hsz⟩ := okWide_struct Try.underlying43 hv
  rw [show Try.prog.cellsOf 43 = 8 by kernel_rfl] at hsz
  obtain ⟨fuel, hf⟩ := h
  obtain ⟨q, u, bl, hl, hb, hq⟩ := open_acc_cells (l := cs.toList) (by simpa using hsz) hf
  refine ⟨q, u, bl, ?_, hb, hq⟩
  have e : cs = #[.int .u16 (q.src : Int), .int .u16 (q.dst : Int), .bool q.app, .int .i64 q.ttl, .int .u16 (q.ssrc : Int), .int .u32 (q.iv : Int), .int .u32 (q.seq : Int), u] := by
    rw [← Array.toList_inj, hl]
  rw [e]
set_option maxRecDepth 100000 in
theorem bs_le {w : World} {B : Nat} {v : Value} {l : List UInt8} (h : BS w B v l) : l.length ≤ 9223372036854775807 := by
  obtain ⟨A, c, _, h1, h2, _⟩ := h
  simp only [maxLen] at h2
  omega
/-- Conditions. -/
def boolOf : Value → Bool
  | .bool b => b
  | _ => false
set_option maxRecDepth 100000 in
theorem open_bools {H : Type} {enc : TypeId × Value → H} {W : World} {r : Reach} {b0 : Nat} {v : Value} {d : DataW H} {p : List MemPlace} (hv : Value.okWide Try.prog W r b0 51 v) (h : DataW.Trod enc Try.prog W 0 (fun _ => true) true 51 v d p) :
    ∃ l : List Bool, Sl W W.heap.size 1 v l.length (l.map fun b => .bool b) := by
  obtain ⟨n, cs, hs, _, hi⟩ := open_sl Try.underlying51 (size := 1) (by kernel_rfl) (by omega) hv h
  have hl := hs.len
  have e1 : cs = (cs.map boolOf).map fun b => .bool b := by
    apply List.ext_getElem?
    intro i
    by_cases hin : i < n
    · obtain ⟨fuel, y, hy⟩ := hi i hin
      obtain ⟨x, hx, _⟩ := DataW.trod_bool Try.underlying4 hy
      have hc : cs[i]? = some (.bool x) := by
        have := congrArg (·[0]?) hx
        simpa [List.getElem?_take, List.getElem?_drop] using this
      simp [List.getElem?_map, hc, boolOf]
    · rw [List.getElem?_eq_none (by omega), List.getElem?_eq_none (by simp; omega)]
  refine ⟨cs.map boolOf, ?_⟩
  rw [← e1, List.length_map, show cs.length = n by omega]
  exact hs

set_option maxRecDepth 100000 in
/-- A call out of the cells of its fields. -/
theorem open_op_cells {H : Type} {enc : TypeId × Value → H} {w : World} {fuel : Nat} {l : List Value} {x : DataW H × List MemPlace} (hl : l.length = 26)
    (hf : DataW.trod enc Try.prog w 0 (fun _ => true) true fuel 59 l = some x) : ∃ (o : OpS) (v : Value × Value), l = opCs o v ∧ BS w w.heap.size v.1 o.ab ∧ BS w w.heap.size v.2 o.lb ∧ OpW o := by
  obtain ⟨ys, n, _, _, _, hlen, hg⟩ := DataW.trod_struct Try.underlying59 hf
  have hlen' : ys.length = 8 := hlen
  have e0 : DataW.trod enc Try.prog w 0 (fun _ => true) true n 3 ((l.drop 0).take 1) = ys[0]? := hg 0 _ rfl
  have e1 : DataW.trod enc Try.prog w 0 (fun _ => true) true n 43 ((l.drop 1).take 8) = ys[1]? := hg 1 _ rfl
  have e2 : DataW.trod enc Try.prog w 0 (fun _ => true) true n 39 ((l.drop 9).take 1) = ys[2]? := hg 2 _ rfl
  have e3 : DataW.trod enc Try.prog w 0 (fun _ => true) true n 39 ((l.drop 10).take 1) = ys[3]? := hg 3 _ rfl
  have e4 : DataW.trod enc Try.prog w 0 (fun _ => true) true n 41 ((l.drop 11).take 3) = ys[4]? := hg 4 _ rfl
  have e5 : DataW.trod enc Try.prog w 0 (fun _ => true) true n 3 ((l.drop 14).take 1) = ys[5]? := hg 5 _ rfl
  have e6 : DataW.trod enc Try.prog w 0 (fun _ => true) true n 3 ((l.drop 15).take 1) = ys[6]? := hg 6 _ rfl
  have e7 : DataW.trod enc Try.prog w 0 (fun _ => true) true n 25 ((l.drop 16).take 10) = ys[7]? := hg 7 _ rfl
  obtain ⟨x0, c0, _⟩ := leaf_int Try.underlying3 e0 (by omega)
  obtain ⟨y1, hy1⟩ := leaf e1 (by omega)
  obtain ⟨x2, c2, w2⟩ := leaf_int Try.underlying39 e2 (by omega)
  obtain ⟨x3, c3, w3⟩ := leaf_int Try.underlying39 e3 (by omega)
  obtain ⟨y4, hy4⟩ := leaf e4 (by omega)
  obtain ⟨x5, c5, _⟩ := leaf_int Try.underlying3 e5 (by omega)
  obtain ⟨x6, c6, _⟩ := leaf_int Try.underlying3 e6 (by omega)
  obtain ⟨y7, hy7⟩ := leaf e7 (by omega)
  obtain ⟨acc, v1, ab, ha, sa, wa⟩ := open_acc_cells (by simp [hl]) hy1
  obtain ⟨low, v2, lb, hlo, sl, wl⟩ := open_low_cells (by simp [hl]) hy7
  obtain ⟨zs, n4, _, _, _, hlen4, hg4⟩ := DataW.trod_struct Try.underlying41 hy4
  have hlen4' : zs.length = 3 := hlen4
  have g0 : DataW.trod enc Try.prog w 0 (fun _ => true) true n4 39 ((((l.drop 11).take 3).drop 0).take 1) = zs[0]? := hg4 0 _ rfl
  have g1 : DataW.trod enc Try.prog w 0 (fun _ => true) true n4 22 ((((l.drop 11).take 3).drop 1).take 1) = zs[1]? := hg4 1 _ rfl
  have g2 : DataW.trod enc Try.prog w 0 (fun _ => true) true n4 22 ((((l.drop 11).take 3).drop 2).take 1) = zs[2]? := hg4 2 _ rfl
  obtain ⟨z0, d0', u0⟩ := leaf_int Try.underlying39 g0 (by omega)
  obtain ⟨z1, d1', u1⟩ := leaf_int Try.underlying22 g1 (by omega)
  obtain ⟨z2, d2', u2⟩ := leaf_int Try.underlying22 g2 (by omega)
  have d0 := at_nest d0'
  have d1 := at_nest d1'
  have d2 := at_nest d2'
  have ka : ∀ j, j < 8 → l[1 + j]? = (accCs acc v1)[j]? := fun j hj => by
    rw [← ha, List.getElem?_take_of_lt hj, List.getElem?_drop]
  have kl : ∀ j, j < 10 → l[16 + j]? = (lowCs low v2)[j]? := fun j hj => by
    have h := congrArg (fun k : List Value => k[j]?) hlo
    rw [List.getElem?_take_of_lt hj, List.getElem?_drop] at h
    exact h
  clear ha hlo
  have rx2 : 0 ≤ x2 ∧ x2 ≤ 65535 := by simpa [Lit.wf, IntKind.min, IntKind.max, IntKind.signed, IntKind.bits] using w2
  obtain ⟨nx2, rfl⟩ := Int.eq_ofNat_of_zero_le rx2.1
  have rx3 : 0 ≤ x3 ∧ x3 ≤ 65535 := by simpa [Lit.wf, IntKind.min, IntKind.max, IntKind.signed, IntKind.bits] using w3
  obtain ⟨nx3, rfl⟩ := Int.eq_ofNat_of_zero_le rx3.1
  have rz0 : 0 ≤ z0 ∧ z0 ≤ 65535 := by simpa [Lit.wf, IntKind.min, IntKind.max, IntKind.signed, IntKind.bits] using u0
  obtain ⟨nz0, rfl⟩ := Int.eq_ofNat_of_zero_le rz0.1
  have rz1 : 0 ≤ z1 ∧ z1 ≤ 4294967295 := by simpa [Lit.wf, IntKind.min, IntKind.max, IntKind.signed, IntKind.bits] using u1
  obtain ⟨nz1, rfl⟩ := Int.eq_ofNat_of_zero_le rz1.1
  have rz2 : 0 ≤ z2 ∧ z2 ≤ 4294967295 := by simpa [Lit.wf, IntKind.min, IntKind.max, IntKind.signed, IntKind.bits] using u2
  obtain ⟨nz2, rfl⟩ := Int.eq_ofNat_of_zero_le rz2.1
  refine ⟨⟨x0, acc, ab, nx2, nx3, nz0, nz1, nz2, x5, x6, low, lb⟩, (v1, v2), ?_, sa, sl, wa, by show nz2 < _; omega, wl⟩
  apply List.ext_getElem?
  intro j
  match j with
  | 0 => simpa using c0
  | 1 => exact ka 0 (by omega)
  | 2 => exact ka 1 (by omega)
  | 3 => exact ka 2 (by omega)
  | 4 => exact ka 3 (by omega)
  | 5 => exact ka 4 (by omega)
  | 6 => exact ka 5 (by omega)
  | 7 => exact ka 6 (by omega)
  | 8 => exact ka 7 (by omega)
  | 9 => simpa using c2
  | 10 => simpa using c3
  | 11 => simpa using d0
  | 12 => simpa using d1
  | 13 => simpa using d2
  | 14 => simpa using c5
  | 15 => simpa using c6
  | 16 => exact kl 0 (by omega)
  | 17 => exact kl 1 (by omega)
  | 18 => exact kl 2 (by omega)
  | 19 => exact kl 3 (by omega)
  | 20 => exact kl 4 (by omega)
  | 21 => exact kl 5 (by omega)
  | 22 => exact kl 6 (by omega)
  | 23 => exact kl 7 (by omega)
  | 24 => exact kl 8 (by omega)
  | 25 => exact kl 9 (by omega)
  | j + 26 => rw [List.getElem?_eq_none (by omega), List.getElem?_eq_none (by simp)]
def op0 : OpS := ⟨0, ⟨0, 0, false, 0, 0, 0, 0⟩, [], 0, 0, 0, 0, 0, 0, 0, ⟨false, false, false, 0, 0, 0, 0, 0, false⟩, []⟩
set_option maxRecDepth 100000 in
theorem open_ops {H : Type} {enc : TypeId × Value → H} {W : World} {r : Reach} {b0 : Nat} {v : Value} {d : DataW H} {p : List MemPlace} (hv : Value.okWide Try.prog W r b0 57 v) (h : DataW.Trod enc Try.prog W 0 (fun _ => true) true 57 v d p) :
    ∃ l : List OpS, OpsV W W.heap.size v l := by
  obtain ⟨n, cs, hs, _, hi⟩ := open_sl Try.underlying57 (size := 26) (by kernel_rfl) (by omega) hv h
  have hl := hs.len
  have key : ∀ i, ∃ q : OpS × (Value × Value), i < n → (cs.drop (i * 26)).take 26 = opCs q.1 q.2 ∧ BS W W.heap.size q.2.1 q.1.ab ∧ BS W W.heap.size q.2.2 q.1.lb ∧ OpW q.1 := by
    intro i
    by_cases hin : i < n
    · obtain ⟨fuel, y, hy⟩ := hi i hin
      obtain ⟨o, u, h1, h2, h3, h4⟩ := open_op_cells (by rw [List.length_take, List.length_drop]; omega) hy
      exact ⟨(o, u), fun _ => ⟨h1, h2, h3, h4⟩⟩
    · exact ⟨(op0, undef, undef), fun h => absurd h hin⟩
  obtain ⟨f, hfk⟩ := Classical.axiomOfChoice key
  let os : List OpS := (List.range n).map fun i => (f i).1
  let vs : List (Value × Value) := (List.range n).map fun i => (f i).2
  have hel : os.length = n := by simp [os]
  have hvl : vs.length = n := by simp [vs]
  have hei : ∀ i, i < n → os[i]? = some (f i).1 := fun i h => by simp [os, h]
  have hvi : ∀ i, i < n → vs[i]? = some (f i).2 := fun i h => by simp [vs, h]
  have e1 : cs = flat2 opCs os vs := by
    apply List.ext_getElem?
    intro j
    by_cases hj : j < n * 26
    · have hi2 : j / 26 < n := Nat.div_lt_of_lt_mul (by omega)
      obtain ⟨k0, _⟩ := hfk (j / 26) hi2
      have hm : j % 26 < 26 := Nat.mod_lt _ (by omega)
      have c1 := flat2_at opCs_len os vs (j / 26) _ _ (j % 26) (by omega) (hei _ hi2) (hvi _ hi2) hm
      rw [Nat.div_add_mod' j 26] at c1
      rw [c1, ← k0, List.getElem?_take_of_lt hm, List.getElem?_drop, Nat.div_add_mod' j 26]
    · rw [List.getElem?_eq_none (by omega), List.getElem?_eq_none (by rw [flat2_len opCs_len os vs (by omega)]; omega)]
  refine ⟨os, vs, by omega, by rw [← e1, hel]; exact hs, fun k o u ho hu => ?_⟩
  have hk : k < n := by have := (List.getElem?_eq_some_iff.1 ho).1; omega
  rw [hei k hk] at ho
  rw [hvi k hk] at hu
  obtain rfl := Option.some.inj ho
  obtain rfl := Option.some.inj hu
  exact (hfk k hk).2
end Go.Proofs.Ytkpjinkkjbljkaa
