/- Arguments that came in, opened: slices of whatever one-cell elements, of bytes, of numbers, of fields; and how long they are. No condition. -/
import Derived.Test.YthgpmedldnnhpaaOctPlain
import Derived.Deep.Slices
import Derived.SizedLaws
namespace Go.Proofs.Ythgpmedldnnhpaa
open Go.RowKit Go.ChangeShapes Go.WideShapes Go.ChangeAt Go.Deep

section
variable {H : Type} {enc : TypeId × Value → H} {P : Program} {W : World}

/-- How long the datum of an argument says that the slice is: n is at most that. -/
def DLen (d : DataW H) (n : Nat) : Prop := n = 0 ∨ ∃ elems spare, d = .slice elems spare ∧ elems.length = n

theorem open_sl {t e : TypeId} {size b0 : Nat} {r : Reach} {v : Value} {d : DataW H} {p : List MemPlace} (ht : P.underlying t = some (.slice e)) (hC : P.cellsOf e = size) (hpos : 0 < size) (hv : Value.okWide P W r b0 t v) (h : DataW.Trod enc P W 0 (fun _ => true) true t v d p) :
    ∃ (n : Nat) (cs : List Value), Sl W W.heap.size size v n cs ∧ DLen d n ∧ (∀ i, i < n → ∃ fuel y, DataW.trod enc P W 0 (fun _ => true) true fuel e ((cs.drop (i * size)).take size) = some y) := by
  obtain ⟨a0, len0, cap0, rfl⟩ := okWide_slice ht hv
  obtain ⟨fuel, hf⟩ := h
  rcases open_slice ht hf with ⟨hcs, hx⟩ | ⟨a, len, cap, m, n, D, Pl, hcs, _, hl, hm, hmm, hx, hi⟩
  · simp [Value.cells] at hcs
    obtain ⟨rfl, rfl, rfl⟩ := hcs
    exact ⟨0, [], Sl.nil _ _ _, .inl rfl, fun i hi => absurd hi (by omega)⟩
  · simp [Value.cells] at hcs
    obtain ⟨rfl, rfl, rfl⟩ := hcs
    simp only [if_true] at hmm
    subst hmm
    simp only [Prod.mk.injEq] at hx
    obtain ⟨b, off, spot⟩ := a
    have hspot : len0 = 0 ∨ spot = none := by
      rcases Nat.eq_zero_or_pos len0 with h0 | h0
      · exact .inl h0
      · obtain ⟨cs', hc, _⟩ := hi 0 (by omega)
        rw [hC] at hc
        obtain ⟨_, hcl, hat⟩ := World.cells?_some hc
        have h1 := hat 0 hpos
        have h2 : cs'[0]? = some (cs'[0]'(by omega)) := List.getElem?_eq_getElem (by omega)
        rw [h2] at h1
        have h3 := World.cell?_spot h1
        simp [Addr.add] at h3
        exact .inr h3
    rcases hspot with h0 | rfl
    · subst h0
      exact ⟨0, [], ⟨_, _, rfl, by omega, hm, by simp, .inl rfl⟩, .inl rfl, fun i hi => absurd hi (by omega)⟩
    · let f : Nat → Value := fun j => (W.cell? ⟨b, off + j, none⟩).getD undef
      have hadd : ∀ j, (⟨b, off, none⟩ : Addr).add j = ⟨b, off + j, none⟩ := fun j => by unfold Addr.add; split <;> simp_all
      have hat : ∀ i j, i < len0 → j < size → W.cell? ⟨b, off + (i * size + j), none⟩ = some (f (i * size + j)) := by
        intro i j hi' hj
        obtain ⟨cs', hc, _⟩ := hi i (by omega)
        rw [hC] at hc
        obtain ⟨_, hcl, hat⟩ := World.cells?_some hc
        have h1 := hat j hj
        rw [add_add, hadd, List.getElem?_eq_getElem (by omega)] at h1
        show _ = some ((W.cell? ⟨b, off + (i * size + j), none⟩).getD undef)
        rw [h1]; rfl
      refine ⟨len0, (List.range (len0 * size)).map f, ⟨_, _, rfl, hl, hm, by simp, ?_⟩, .inr ⟨_, _, hx.1, by simp⟩, fun i hi' => ?_⟩
      · rcases Nat.eq_zero_or_pos len0 with h0 | h0
        · subst h0; exact .inl (by simp)
        · refine .inr ⟨b, off, rfl, ?_, fun k u hk => ?_⟩
          · have h1 := hat 0 0 h0 hpos
            rcases Nat.lt_or_ge b W.heap.size with h | h
            · exact h
            · simp [World.cell?, Array.getElem?_eq_none h] at h1
          · have hk' : k < len0 * size := by
              rcases Nat.lt_or_ge k (len0 * size) with h | h
              · exact h
              · rw [List.getElem?_eq_none (by simpa using h)] at hk; cases hk
            have hd : k / size < len0 := Nat.div_lt_of_lt_mul (by rw [Nat.mul_comm]; exact hk')
            have h1 := hat (k / size) (k % size) hd (Nat.mod_lt _ hpos)
            rw [Nat.div_add_mod' k size] at h1
            rw [h1]
            simpa [hk'] using hk
      · obtain ⟨cs', hc, ht'⟩ := hi i (by omega)
        rw [hC] at hc
        obtain ⟨_, hcl, hat'⟩ := World.cells?_some hc
        have e : (((List.range (len0 * size)).map f).drop (i * size)).take size = cs' := by
          have hle : i * size + size ≤ len0 * size := by
            have := Nat.mul_le_mul_right size (show i + 1 ≤ len0 by omega)
            rw [Nat.add_mul] at this
            omega
          apply List.ext_getElem?
          intro j
          by_cases hj : j < size
          · rw [List.getElem?_take_of_lt hj, List.getElem?_drop]
            have h1 := hat' j hj
            rw [add_add, hadd] at h1
            have h2 := hat i j hi' hj
            rw [h2] at h1
            rw [← h1]
            simp [show i * size + j < len0 * size by omega]
          · rw [List.getElem?_eq_none (by simp; omega), List.getElem?_eq_none (by omega)]
        rw [e]
        exact ⟨_, _, ht'⟩

def byteOf : Value → UInt8
  | .int _ n => UInt8.ofNat n.toNat
  | _ => 0
def intOfV : Value → Int
  | .int _ n => n
  | _ => 0

theorem open_bytes {t e : TypeId} {b0 : Nat} {r : Reach} {v : Value} {d : DataW H} {p : List MemPlace} (ht : P.underlying t = some (.slice e)) (he : P.underlying e = some (.int .u8)) (hC : P.cellsOf e = 1) (hv : Value.okWide P W r b0 t v) (h : DataW.Trod enc P W 0 (fun _ => true) true t v d p) :
    ∃ l : List UInt8, BS W W.heap.size v l ∧ DLen d l.length := by
  obtain ⟨n, cs, hs, hd, hi⟩ := open_sl ht hC (by omega) hv h
  have hl := hs.len
  have e1 : cs = bys (cs.map byteOf) := by
    apply List.ext_getElem?
    intro i
    by_cases hin : i < n
    · obtain ⟨fuel, y, hy⟩ := hi i hin
      obtain ⟨x, hx, _, hw⟩ := DataW.trod_int he hy
      have hc : cs[i]? = some (.int .u8 x) := by
        have := congrArg (·[0]?) hx
        simpa [List.getElem?_take, List.getElem?_drop] using this
      have hb : 0 ≤ x ∧ x ≤ 255 := by simpa [Lit.wf, IntKind.min, IntKind.max, IntKind.signed, IntKind.bits] using hw
      simp only [bys, List.map_map, List.getElem?_map, hc, Option.map_some, Function.comp, byteOf]
      congr 2
      rw [UInt8.toNat_ofNat']
      omega
    · rw [List.getElem?_eq_none (by omega), List.getElem?_eq_none (by simp [bys]; omega)]
  refine ⟨cs.map byteOf, ?_, by rw [List.length_map, hl, Nat.mul_one]; exact hd⟩
  unfold BS
  rw [← e1, List.length_map, show cs.length = n by omega]
  exact hs

theorem open_ints_sl {t e : TypeId} {b0 : Nat} {r : Reach} {v : Value} {d : DataW H} {p : List MemPlace} (ht : P.underlying t = some (.slice e)) (he : P.underlying e = some (.int .i64)) (hC : P.cellsOf e = 1) (hv : Value.okWide P W r b0 t v) (h : DataW.Trod enc P W 0 (fun _ => true) true t v d p) :
    ∃ l : List Int, Sl W W.heap.size 1 v l.length (ints l) ∧ DLen d l.length ∧ ∀ x ∈ l, -9223372036854775808 ≤ x ∧ x ≤ 9223372036854775807 := by
  obtain ⟨n, cs, hs, hd, hi⟩ := open_sl ht hC (by omega) hv h
  have hl := hs.len
  have key : ∀ i, i < n → ∃ x : Int, cs[i]? = some (.int .i64 x) ∧ -9223372036854775808 ≤ x ∧ x ≤ 9223372036854775807 := by
    intro i hin
    obtain ⟨fuel, y, hy⟩ := hi i hin
    obtain ⟨x, hx, _, hw⟩ := DataW.trod_int he hy
    have hc : cs[i]? = some (.int .i64 x) := by
      have := congrArg (·[0]?) hx
      simpa [List.getElem?_take, List.getElem?_drop] using this
    exact ⟨x, hc, by simpa [Lit.wf, IntKind.min, IntKind.max, IntKind.signed, IntKind.bits] using hw⟩
  have e1 : cs = ints (cs.map intOfV) := by
    apply List.ext_getElem?
    intro i
    by_cases hin : i < n
    · obtain ⟨x, hc, _⟩ := key i hin
      simp [ints, hc, intOfV]
    · rw [List.getElem?_eq_none (by omega), List.getElem?_eq_none (by simp [ints]; omega)]
  refine ⟨cs.map intOfV, ?_, by rw [List.length_map, hl, Nat.mul_one]; exact hd, ?_⟩
  · rw [← e1, List.length_map, show cs.length = n by omega]
    exact hs
  · intro x hx
    rw [List.mem_map] at hx
    obtain ⟨v, hv, rfl⟩ := hx
    obtain ⟨i, hi', rfl⟩ := List.getElem_of_mem hv
    obtain ⟨x, hc, hb⟩ := key i (by omega)
    rw [List.getElem?_eq_getElem hi'] at hc
    rw [Option.some.inj hc]
    exact hb

theorem open_fields {t e : TypeId} {f0 f1 : Field} {b0 : Nat} {r : Reach} {v : Value} {d : DataW H} {p : List MemPlace} (ht : P.underlying t = some (.slice e)) (he : P.underlying e = some (.struct #[f0, f1])) (hC : P.cellsOf e = 2) (ho0 : f0.offset = 0) (ho1 : f1.offset = 1) (hc0 : P.cellsOf f0.type = 1) (hc1 : P.cellsOf f1.type = 1)
    (hf0 : P.underlying f0.type = some (.int .i64)) (hf1 : P.underlying f1.type = some (.int .u64)) (hv : Value.okWide P W r b0 t v) (h : DataW.Trod enc P W 0 (fun _ => true) true t v d p) :
    ∃ l : List (Int × Nat), Sl W W.heap.size 2 v l.length (flds l) ∧ DLen d l.length ∧ (∀ f ∈ l, f.2 < 2 ^ 64) ∧ ∀ f ∈ l, -9223372036854775808 ≤ f.1 ∧ f.1 ≤ 9223372036854775807 := by
  obtain ⟨n, cs, hs, hd, hi⟩ := open_sl ht hC (by omega) hv h
  have hl := hs.len
  have key : ∀ i, i < n → ∃ (x : Int) (y : Nat), cs[i * 2]? = some (.int .i64 x) ∧ cs[i * 2 + 1]? = some (.int .u64 (y : Int)) ∧ y < 2 ^ 64 ∧ -9223372036854775808 ≤ x ∧ x ≤ 9223372036854775807 := by
    intro i hin
    obtain ⟨fuel, y, hy⟩ := hi i hin
    obtain ⟨y0, y1, m, _, _, h0, h1⟩ := trod_struct2 he hy
    rw [ho0, hc0] at h0
    rw [ho1, hc1] at h1
    obtain ⟨x, hx, _, hw⟩ := DataW.trod_int hf0 h0
    obtain ⟨z, hz, _, hwz⟩ := DataW.trod_int hf1 h1
    have hc : cs[i * 2]? = some (.int .i64 x) := by
      have := congrArg (·[0]?) hx
      simpa [List.getElem?_take, List.getElem?_drop] using this
    have hc' : cs[i * 2 + 1]? = some (.int .u64 z) := by
      have := congrArg (·[0]?) hz
      simpa [List.getElem?_take, List.getElem?_drop] using this
    have hwz' : 0 ≤ z ∧ z ≤ 18446744073709551615 := by simpa [Lit.wf, IntKind.min, IntKind.max, IntKind.signed, IntKind.bits] using hwz
    have hw' : -9223372036854775808 ≤ x ∧ x ≤ 9223372036854775807 := by simpa [Lit.wf, IntKind.min, IntKind.max, IntKind.signed, IntKind.bits] using hw
    refine ⟨x, z.toNat, hc, ?_, by omega, hw'⟩
    rw [hc']
    congr 2
    omega
  let num : Option Value → Int := fun v => match v with | some (.int _ n) => n | _ => 0
  let l : List (Int × Nat) := (List.range n).map fun i => (num cs[i * 2]?, (num cs[i * 2 + 1]?).toNat)
  have hll : l.length = n := by simp [l]
  have hli : ∀ i (h : i < n), l[i]? = some (num cs[i * 2]?, (num cs[i * 2 + 1]?).toNat) := by intro i h; simp [l, h]
  have e1 : cs = flds l := by
    apply List.ext_getElem?
    intro i
    by_cases hin : i < n * 2
    · have hi2 : i / 2 < n := by omega
      obtain ⟨x, y, h0, h1, _⟩ := key (i / 2) hi2
      have hat := flds_at (l := l) (k := i / 2) (by omega)
      have hlx := hli (i / 2) hi2
      rw [List.getElem?_eq_getElem (by omega)] at hlx
      have hlx := Option.some.inj hlx
      rw [hlx] at hat
      rcases Nat.mod_two_eq_zero_or_one i with hm | hm
      · have e : i = i / 2 * 2 := by omega
        rw [e, h0, hat.1, h0]
      · have e : i = i / 2 * 2 + 1 := by omega
        rw [e, h1, hat.2, h1]
        simp [num]
    · rw [List.getElem?_eq_none (by omega), List.getElem?_eq_none (by rw [flds_length]; omega)]
  have each : ∀ f ∈ l, ∃ i, i < n ∧ f = (num cs[i * 2]?, (num cs[i * 2 + 1]?).toNat) := by
    intro f hf
    simp only [l, List.mem_map, List.mem_range] at hf
    obtain ⟨i, hi', rfl⟩ := hf
    exact ⟨i, hi', rfl⟩
  refine ⟨l, by rw [← e1, hll]; exact hs, by rw [hll]; exact hd, fun f hf => ?_, fun f hf => ?_⟩
  · obtain ⟨i, hi', rfl⟩ := each f hf
    obtain ⟨x, y, h0, h1, hy, _⟩ := key i hi'
    simp only [h1, num]
    simpa using hy
  · obtain ⟨i, hi', rfl⟩ := each f hf
    obtain ⟨x, y, h0, h1, _, hb⟩ := key i hi'
    simp only [h0, num]
    exact hb

/-- The form's own reach: a slice takes at most 2^47 - 4096 bytes. -/
theorem reach_len {ts : List TypeId} {ds : List (DataW H)} (h : (DataW.weightsEach P ts ds).all (· ≤ reachBytes) = true) {j : Nat} {t e : TypeId} {d : DataW H} {n : Nat} (ht : ts[j]? = some t) (hd : ds[j]? = some d) (hu : P.underlying t = some (.slice e)) (hn : DLen d n) : n * P.bytesOf e ≤ 140737488351232 := by
  rcases hn with rfl | ⟨elems, spare, rfl, rfl⟩
  · simp
  · have h1 := sized_slice h ht hd hu
    have h2 : elems.length * P.bytesOf e ≤ (elems.length + spare.length) * P.bytesOf e := Nat.mul_le_mul_right _ (by omega)
    have h3 : reachBytes = 140737488351232 := rfl
    omega
/-- The second form's bound. -/
theorem bulk_len {d : DataW H} {n : Nat} (hn : DLen d n) : n ≤ Rows.uptoBulk d := by
  rcases hn with rfl | ⟨elems, spare, rfl, rfl⟩
  · omega
  · have one : ∀ d : DataW H, 1 ≤ Rows.uptoBulk d := by
      intro d
      cases d with
      | lit l => cases l <;> simp [Rows.uptoBulk]
      | nil => simp [Rows.uptoBulk]
      | ptr d => simp [Rows.uptoBulk]
      | slice elems spare => simp [Rows.uptoBulk]
      | agg parts => simp [Rows.uptoBulk]
      | iface t d => simp [Rows.uptoBulk]
      | map entries => simp [Rows.uptoBulk]
      | held h => simp [Rows.uptoBulk]
    have all : ∀ l : List (DataW H), l.length ≤ Rows.uptoBulkAll l := by
      intro l
      induction l with
      | nil => simp [Rows.uptoBulkAll]
      | cons x r ih => have := one x; simp only [Rows.uptoBulkAll, List.length_cons]; omega
    have := all elems
    simp only [Rows.uptoBulk]
    omega
end
end Go.Proofs.Ythgpmedldnnhpaa
