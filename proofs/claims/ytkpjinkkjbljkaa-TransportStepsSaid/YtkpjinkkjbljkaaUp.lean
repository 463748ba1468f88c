/- Slices, parts and lists that lie from a block on: a write to an older block leaves them. No condition. -/
import Derived.Test.YtkpjinkkjbljkaaMany
namespace Go.Proofs.Ytkpjinkkjbljkaa
open Go.RowKit

/-- As Sl, from block b0 on. -/
def Sl2 (w : World) (b0 B size : Nat) (v : Value) (n : Nat) (cs : List Value) : Prop :=
  ∃ A c, v = .slice A n c ∧ n ≤ c ∧ c ≤ maxLen ∧ cs.length = n * size ∧ (cs = [] ∨ ∃ b off, A = some ⟨b, off, none⟩ ∧ b0 ≤ b ∧ b < B ∧ ∀ (k : Nat) (u : Value), cs[k]? = some u → w.cell? ⟨b, off + k, none⟩ = some u)
section
variable {w w' : World} {b0 b1 B B' base size n : Nat} {v : Value} {cs : List Value}
theorem Sl2.weak (h : Sl2 w b0 B size v n cs) : Sl w B size v n cs := by
  obtain ⟨A, c, rfl, h1, h2, h3, h4⟩ := h
  refine ⟨A, c, rfl, h1, h2, h3, ?_⟩
  rcases h4 with h4 | ⟨b, off, rfl, _, hb, hc⟩
  · exact .inl h4
  · exact .inr ⟨b, off, rfl, hb, hc⟩
theorem Sl2.keep (h : Sl2 w b0 B size v n cs) (hk : ∀ b o, b0 ≤ b → b < B → w'.cell? ⟨b, o, none⟩ = w.cell? ⟨b, o, none⟩) : Sl2 w' b0 B size v n cs := by
  obtain ⟨A, c, rfl, h1, h2, h3, h4⟩ := h
  refine ⟨A, c, rfl, h1, h2, h3, ?_⟩
  rcases h4 with h4 | ⟨b, off, rfl, h0, hb, hc⟩
  · exact .inl h4
  · exact .inr ⟨b, off, rfl, h0, hb, fun k u hu => (hk _ _ h0 hb).trans (hc k u hu)⟩
theorem Sl2.below (h : Sl2 w b0 B size v n cs) (hb : Below B w w') : Sl2 w' b0 B size v n cs := h.keep fun _ _ _ hp => hb.cell (p := ⟨_, _, none⟩) hp
theorem Sl2.mono (h : Sl2 w b0 B size v n cs) (h0 : b1 ≤ b0) (hB : B ≤ B') : Sl2 w b1 B' size v n cs := by
  obtain ⟨A, c, rfl, h1, h2, h3, h4⟩ := h
  refine ⟨A, c, rfl, h1, h2, h3, ?_⟩
  rcases h4 with h4 | ⟨b, off, rfl, hb0, hb, hc⟩
  · exact .inl h4
  · exact .inr ⟨b, off, rfl, Nat.le_trans h0 hb0, Nat.lt_of_lt_of_le hb hB, hc⟩
theorem Sl2.far (h : Sl2 w b0 B size v n cs) {b : Nat} (hb : b < b0) (j : Nat) (x : Value) : Sl2 (w.setCell ⟨b, j, none⟩ x) b0 B size v n cs :=
  h.keep fun b' o h0 _ => by
    have hne : b' ≠ b := by omega
    unfold World.cell?
    rw [heap_setCell_other _ ⟨b, j, none⟩ b' x hne]
theorem Sl2.nil (w : World) (b0 B size : Nat) : Sl2 w b0 B size (.slice none 0 0) 0 [] := ⟨none, 0, rfl, Nat.le_refl _, Nat.zero_le _, by simp, .inl rfl⟩
theorem Sl2.of_own {e : TypeId} (h : w.ownsRow base e size v n cs) : Sl2 w base w.heap.size size v n cs := by
  obtain ⟨A, c, hv, h1, h2, h3, h4⟩ := Sl.of_own h
  refine ⟨A, c, hv, h1, h2, h3, ?_⟩
  rcases h4 with h4 | ⟨b, off, hA, hb, hc⟩
  · exact .inl h4
  · rcases h.2 with ⟨rfl, rfl⟩ | ⟨g, cap, cur, rfl, hg, _⟩
    · injection hv with e _ _
      rw [← e] at hA
      cases hA
    · injection hv with e _ _
      rw [← e] at hA
      simp only [Option.some.injEq, Addr.mk.injEq] at hA
      exact .inr ⟨b, off, by rw [← e]; simp [hA], by omega, hb, hc⟩
theorem Sl2.lit (w : World) (cs : Array Value) (t : TypeId) (n : Nat) (hs : cs.size = n * size) (hm : n ≤ maxLen) : Sl2 (w.alloc (.cells cs t)) w.heap.size (w.heap.size + 1) size (.slice (some ⟨w.heap.size, 0, none⟩) n n) n cs.toList := by
  obtain ⟨A, c, hv, h1, h2, h3, h4⟩ := Sl.lit (size := size) w cs t n hs hm
  refine ⟨A, c, hv, h1, h2, h3, ?_⟩
  rcases h4 with h4 | ⟨b, off, hA, hb, hc⟩
  · exact .inl h4
  · injection hv with e _ _
    rw [← e] at hA
    simp only [Option.some.injEq, Addr.mk.injEq] at hA
    exact .inr ⟨b, off, by rw [← e]; simp [hA], by omega, hb, hc⟩
/-- Bytes. -/
abbrev BS2 (w : World) (b0 B : Nat) (v : Value) (l : List UInt8) : Prop := Sl2 w b0 B 1 v l.length (bys l)
theorem BS2.weak {l : List UInt8} (h : BS2 w b0 B v l) : BS w B v l := Sl2.weak h
theorem BS2.of_own {l : List UInt8} (h : OB w base v l) : BS2 w base w.heap.size v l := Sl2.of_own h
/-- Parts. -/
def PartsV2 (w : World) (b0 B : Nat) (v : Value) (ps : List (List UInt8)) : Prop :=
  ∃ us : List Value, us.length = ps.length ∧ Sl2 w b0 B 1 v ps.length us ∧ ∀ (k : Nat) u p, us[k]? = some u → ps[k]? = some p → BS2 w b0 B u p
variable {ps : List (List UInt8)}
theorem PartsV2.weak (h : PartsV2 w b0 B v ps) : PartsV w B v ps := by
  obtain ⟨us, h1, h2, h3⟩ := h
  exact ⟨us, h1, h2.weak, h1, fun k u p hu hp => (h3 k u p hu hp).weak⟩
theorem PartsV2.below (h : PartsV2 w b0 B v ps) (hb : Below B w w') : PartsV2 w' b0 B v ps := by
  obtain ⟨us, h1, h2, h3⟩ := h
  exact ⟨us, h1, h2.below hb, fun k u p hu hp => (h3 k u p hu hp).below hb⟩
theorem PartsV2.mono (h : PartsV2 w b0 B v ps) (h0 : b1 ≤ b0) (hB : B ≤ B') : PartsV2 w b1 B' v ps := by
  obtain ⟨us, h1, h2, h3⟩ := h
  exact ⟨us, h1, h2.mono h0 hB, fun k u p hu hp => (h3 k u p hu hp).mono h0 hB⟩
theorem PartsV2.far (h : PartsV2 w b0 B v ps) {b : Nat} (hb : b < b0) (j : Nat) (x : Value) : PartsV2 (w.setCell ⟨b, j, none⟩ x) b0 B v ps := by
  obtain ⟨us, h1, h2, h3⟩ := h
  exact ⟨us, h1, h2.far hb j x, fun k u p hu hp => (h3 k u p hu hp).far hb j x⟩
theorem OwnParts.up (h : OwnParts w base v ps) : PartsV2 w base w.heap.size v ps := by
  obtain ⟨us, h1, h2, h3⟩ := h
  exact ⟨us, h1, Sl2.of_own h2, fun k u p hu hp => BS2.of_own (h3 k u p hu hp)⟩
end
section
variable {α : Type} (f : α → Value → List Value) (m : Nat) (pf : α → List (List UInt8)) (bf : α → List UInt8)
/-- Structs with parts; structs with bytes. -/
def RowV2 (w : World) (b0 B : Nat) (v : Value) (os : List α) : Prop :=
  ∃ vs : List Value, vs.length = os.length ∧ Sl2 w b0 B m v os.length (flat2 f os vs) ∧ ∀ (k : Nat) o u, os[k]? = some o → vs[k]? = some u → PartsV2 w b0 B u (pf o)
def ManyV2 (w : World) (b0 B : Nat) (v : Value) (ps : List α) : Prop :=
  ∃ vs : List Value, vs.length = ps.length ∧ Sl2 w b0 B m v ps.length (flat2 f ps vs) ∧ ∀ (k : Nat) p u, ps[k]? = some p → vs[k]? = some u → BS2 w b0 B u (bf p)
variable {f m pf bf} {w w' : World} {b0 b1 B B' base : Nat} {v : Value} {os : List α} {t : TypeId}
theorem RowV2.weak (h : RowV2 f m pf w b0 B v os) : RowV f m pf w B v os := by
  obtain ⟨vs, h1, h2, h3⟩ := h
  exact ⟨vs, h1, h2.weak, fun k o u ho hu => (h3 k o u ho hu).weak⟩
theorem RowV2.below (h : RowV2 f m pf w b0 B v os) (hb : Below B w w') : RowV2 f m pf w' b0 B v os := by
  obtain ⟨vs, h1, h2, h3⟩ := h
  exact ⟨vs, h1, h2.below hb, fun k o u ho hu => (h3 k o u ho hu).below hb⟩
theorem RowV2.mono (h : RowV2 f m pf w b0 B v os) (h0 : b1 ≤ b0) (hB : B ≤ B') : RowV2 f m pf w b1 B' v os := by
  obtain ⟨vs, h1, h2, h3⟩ := h
  exact ⟨vs, h1, h2.mono h0 hB, fun k o u ho hu => (h3 k o u ho hu).mono h0 hB⟩
theorem RowV2.on (h : RowV2 f m pf w b0 w.heap.size v os) (hb : Below w.heap.size w w') : RowV2 f m pf w' b0 w'.heap.size v os := (h.below hb).mono (Nat.le_refl _) hb.size
theorem RowV2.far (h : RowV2 f m pf w b0 B v os) {b : Nat} (hb : b < b0) (j : Nat) (x : Value) : RowV2 f m pf (w.setCell ⟨b, j, none⟩ x) b0 B v os := by
  obtain ⟨vs, h1, h2, h3⟩ := h
  exact ⟨vs, h1, h2.far hb j x, fun k o u ho hu => (h3 k o u ho hu).far hb j x⟩
theorem RowV2.nil (w : World) (b0 B : Nat) : RowV2 f m pf w b0 B (.slice none 0 0) [] := ⟨[], rfl, Sl2.nil _ _ _ _, fun _ _ _ h => by simp at h⟩
theorem OwnRow.up (h : OwnRow f m pf t w base v os) : RowV2 f m pf w base w.heap.size v os := by
  obtain ⟨vs, h1, h2⟩ := h
  exact ⟨vs, h2.1, Sl2.of_own h1, fun k o u ho hu => (h2.2.1 k o u ho hu).up⟩
theorem OwnRow.upto (h : OwnRow f m pf t w base v os) (hb : b0 ≤ base) : RowV2 f m pf w b0 w.heap.size v os := h.up.mono hb (Nat.le_refl _)
theorem ManyV2.weak (h : ManyV2 f m bf w b0 B v os) : ManyV f m bf w B v os := by
  obtain ⟨vs, h1, h2, h3⟩ := h
  exact ⟨vs, h1, h2.weak, fun k o u ho hu => (h3 k o u ho hu).weak⟩
theorem ManyV2.below (h : ManyV2 f m bf w b0 B v os) (hb : Below B w w') : ManyV2 f m bf w' b0 B v os := by
  obtain ⟨vs, h1, h2, h3⟩ := h
  exact ⟨vs, h1, h2.below hb, fun k o u ho hu => (h3 k o u ho hu).below hb⟩
theorem ManyV2.mono (h : ManyV2 f m bf w b0 B v os) (h0 : b1 ≤ b0) (hB : B ≤ B') : ManyV2 f m bf w b1 B' v os := by
  obtain ⟨vs, h1, h2, h3⟩ := h
  exact ⟨vs, h1, h2.mono h0 hB, fun k o u ho hu => (h3 k o u ho hu).mono h0 hB⟩
theorem ManyV2.on (h : ManyV2 f m bf w b0 w.heap.size v os) (hb : Below w.heap.size w w') : ManyV2 f m bf w' b0 w'.heap.size v os := (h.below hb).mono (Nat.le_refl _) hb.size
theorem ManyV2.far (h : ManyV2 f m bf w b0 B v os) {b : Nat} (hb : b < b0) (j : Nat) (x : Value) : ManyV2 f m bf (w.setCell ⟨b, j, none⟩ x) b0 B v os := by
  obtain ⟨vs, h1, h2, h3⟩ := h
  exact ⟨vs, h1, h2.far hb j x, fun k o u ho hu => (h3 k o u ho hu).far hb j x⟩
theorem ManyV2.nil (w : World) (b0 B : Nat) : ManyV2 f m bf w b0 B (.slice none 0 0) [] := ⟨[], rfl, Sl2.nil _ _ _ _, fun _ _ _ h => by simp at h⟩
theorem OwnM.up (h : OwnM f m bf t w base v os) : ManyV2 f m bf w base w.heap.size v os := by
  obtain ⟨vs, h1, h2, h3⟩ := h
  exact ⟨vs, h1, Sl2.of_own h2, fun k p u hp hu => BS2.of_own (h3 k p u hp hu)⟩
theorem OwnM.upto (h : OwnM f m bf t w base v os) (hb : b0 ≤ base) : ManyV2 f m bf w b0 w.heap.size v os := h.up.mono hb (Nat.le_refl _)
theorem ManyV2.form (h : ManyV2 f m bf w b0 B v os) : ∃ A c, v = .slice A os.length c := h.weak.form
end
end Go.Proofs.Ytkpjinkkjbljkaa
