/- Words for the walk of transport.Receive at a segment: the state in memory with one message taken out. No condition. -/
import Derived.Test.YtkpjinkkjbljkaaTq4
import Derived.Laws.BitsAllLaws
namespace Go.Proofs.Ytkpjinkkjbljkaa
open Go.RowKit

/-! ### A struct in a block of its own, its type known -/
def BT (w : World) (b : Nat) (t : TypeId) (cs : List Value) : Prop := w.heap[b]? = some (.cells cs.toArray t (0, 0))
section
variable {w w' : World} {b B : Nat} {t : TypeId} {cs ds : List Value}
theorem BT.box (h : BT w b t cs) : Box w b cs := ⟨t, h⟩
theorem BT.row (h : BT w b t cs) {base m : Nat} (hb : base ≤ b) (hl : cs.length = m) : w.ownsRow base t m (.slice (some ⟨b, 0, none⟩) 1 1) 1 cs := own_row h hb (by simp [maxLen]) (by omega)
theorem BT.on (h : BT w b t cs) (hb : Below w.heap.size w w') : BT w' b t cs := by
  have hlt := h.box.lt
  unfold BT at *
  rw [hb.block b hlt]; exact h
theorem BT.set (h : BT w b t cs) (j : Nat) (u : Value) : BT (w.setCell ⟨b, j, none⟩ u) b t (cs.set j u) := by
  unfold BT at *
  rw [heap_setCell_same _ _ _ _ _ _ h]; simp
theorem BT.far (h : BT w b t cs) {p : Addr} (hp : b ≠ p.block) (u : Value) : BT (w.setCell p u) b t cs := by
  unfold BT at *
  rw [heap_setCell_other _ _ _ _ hp]; exact h
theorem BT.some_puts (h : BT w b t cs) (o : Nat) (ds : List Value) : ∃ cs', BT (w.setCells b o ds) b t cs' := by
  induction ds generalizing w o cs with
  | nil => exact ⟨cs, h⟩
  | cons d ds ih => exact ih (h.set o d) (o + 1)
theorem BT.put (h : BT w b t cs) (ds : List Value) (hl : ds.length = cs.length) : BT (w.setCells b 0 ds) b t ds := by
  obtain ⟨cs', h1⟩ := h.some_puts 0 ds
  obtain ⟨t', h2⟩ := h.box.put ds hl
  unfold BT at *
  rw [h1] at h2
  simp only [Option.some.injEq, Obj.cells.injEq] at h2
  rw [h1, h2.1]
theorem BT.new (w : World) (cs : List Value) (t : TypeId) : BT (w.alloc (.cells cs.toArray t)) w.heap.size t cs := heap_alloc_new w _
theorem BT.grown {row : Option Nat} (h : BT w b t cs) (hg : w.grownBy w' row) (hne : some b ≠ row) : BT w' b t cs := by
  have hlt := h.box.lt
  unfold BT at *
  rw [hg.block b hlt hne]; exact h
end
/-- A store into a block that is not the row's. -/
theorem own_other {w : World} {base : Nat} {e : TypeId} {size n b : Nat} {v : Value} {xs : List Value} (h : w.ownsRow base e size v n xs) (hb : ∀ g, v.ownBlock = some g → g ≠ b) (j : Nat) (x : Value) : (w.setCell ⟨b, j, none⟩ x).ownsRow base e size v n xs :=
  own_puts h (b := b) hb j [x]
section
variable {α : Type} {f : α → Value → List Value} {m : Nat} {pf : α → List (List UInt8)} {t : TypeId} {w : World} {base : Nat} {v : Value} {os : List α}
theorem OwnRow.store {size n g c : Nat} {t' : TypeId} {ys : List Value} (h : OwnRow f m pf t w base v os) (hrow : w.ownsRow base t' size (.slice (some ⟨g, 0, none⟩) n c) n ys) (h0 : t ≠ t') (h1 : 23 ≠ t') (h2 : 5 ≠ t') (j : Nat) (x : Value) : OwnRow f m pf t (w.setCell ⟨g, j, none⟩ x) base v os := by
  obtain ⟨vs, k1, k2⟩ := h
  refine ⟨vs, own_other k1 (fun g1 hg e => ?_) j x, k2.store hrow h1 h2 j x⟩
  subst e
  exact far_type k1 hrow h0 g1 hg rfl
end

/-! ### One taken out of many -/
theorem Apart.symm' {v u : Value} (h : Apart v u) : Apart u v := h.symm
theorem own_many_pick {α : Type} {pf : α → List (List UInt8)} {w : World} {base : Nat} {os : List α} {vs : List Value} (h : OwnMany pf w base os vs) {i : Nat} {o : α} {u : Value} (ho : os[i]? = some o) (hu : vs[i]? = some u) : OwnMany pf w base (os.eraseIdx i ++ [o]) (vs.eraseIdx i ++ [u]) := by
  obtain ⟨h1, h2, h3⟩ := h
  have hi : i < os.length := (List.getElem?_eq_some_iff.1 ho).1
  have hle : (os.eraseIdx i).length = os.length - 1 := List.length_eraseIdx_of_lt hi
  have hlv : (vs.eraseIdx i).length = os.length - 1 := by rw [List.length_eraseIdx_of_lt (by omega), h1]
  -- where element number k of the new list was
  have key : ∀ {β : Type} (l : List β) (y : β), l.length = os.length → l[i]? = some y → ∀ k z, (l.eraseIdx i ++ [y])[k]? = some z → l[if k = os.length - 1 then i else if k < i then k else k + 1]? = some z := by
    intro β l y hl hy k z hz
    have hle' : (l.eraseIdx i).length = os.length - 1 := by rw [List.length_eraseIdx_of_lt (by omega), hl]
    by_cases hk : k < os.length - 1
    · rw [List.getElem?_append_left (by omega), List.getElem?_eraseIdx] at hz
      rw [if_neg (by omega)]
      split at hz
      · rw [if_pos (by assumption)]; exact hz
      · rw [if_neg (by assumption)]; exact hz
    · have hk2 : k = os.length - 1 := by
        have := (List.getElem?_eq_some_iff.1 hz).1
        rw [List.length_append, hle'] at this
        simp at this
        omega
      subst hk2
      rw [List.getElem?_append_right (by omega), hle', Nat.sub_self] at hz
      simp only [List.getElem?_cons_zero, Option.some.injEq] at hz
      subst hz
      rw [if_pos rfl]
      exact hy
  refine ⟨by rw [List.length_append, List.length_append, hle, hlv]; rfl, fun k o' u' ho' hu' => ?_, fun j k u' x' hjk hu' hx' => ?_⟩
  · exact h2 _ _ _ (key os o rfl ho k o' ho') (key vs u h1 hu k u' hu')
  · have a := key vs u h1 hu j u' hu'
    have b := key vs u h1 hu k x' hx'
    have hk : k ≤ os.length - 1 := by
      have := (List.getElem?_eq_some_iff.1 hx').1
      rw [List.length_append, hlv] at this
      simp at this
      omega
    generalize hp : (if j = os.length - 1 then i else if j < i then j else j + 1) = p at *
    generalize hq : (if k = os.length - 1 then i else if k < i then k else k + 1) = q at *
    rcases Nat.lt_trichotomy p q with hpq | hpq | hpq
    · exact h3 p q u' x' hpq a b
    · exfalso
      split at hp <;> split at hq <;> (try split at hp) <;> (try split at hq) <;> omega
    · exact (h3 q p x' u' hpq b a).symm
theorem own_many_snoc {α : Type} {pf : α → List (List UInt8)} {w : World} {base : Nat} {os : List α} {vs : List Value} (h : OwnMany pf w base os vs) {o : α} {u : Value} (hu : OwnParts w base u (pf o)) (ha : ∀ x ∈ vs, Apart x u) : OwnMany pf w base (os ++ [o]) (vs ++ [u]) := by
  obtain ⟨h1, h2, h3⟩ := h
  refine ⟨by simp [h1], fun k o' u' ho' hu' => ?_, fun j k u' x' hjk hu' hx' => ?_⟩
  · by_cases hk : k < os.length
    · rw [List.getElem?_append_left hk] at ho'
      rw [List.getElem?_append_left (by omega)] at hu'
      exact h2 k o' u' ho' hu'
    · have hke : k = os.length := by
        have := (List.getElem?_eq_some_iff.1 ho').1
        simp at this
        omega
      subst hke
      rw [List.getElem?_append_right (Nat.le_refl _), Nat.sub_self] at ho'
      rw [List.getElem?_append_right (by omega), h1, Nat.sub_self] at hu'
      simp only [List.getElem?_cons_zero, Option.some.injEq] at ho' hu'
      subst ho' hu'
      exact hu
  · have hkl : k ≤ vs.length := by
      have := (List.getElem?_eq_some_iff.1 hx').1
      simp at this
      omega
    by_cases hk : k < vs.length
    · rw [List.getElem?_append_left (by omega)] at hu'
      rw [List.getElem?_append_left hk] at hx'
      exact h3 j k u' x' hjk hu' hx'
    · have hke : k = vs.length := by omega
      subst hke
      rw [List.getElem?_append_left hjk] at hu'
      rw [List.getElem?_append_right (Nat.le_refl _), Nat.sub_self] at hx'
      simp only [List.getElem?_cons_zero, Option.some.injEq] at hx'
      subst hx'
      exact ha u' (List.mem_of_getElem? hu')

/-- A store into a row of slices of bytes: another such row, apart from it. -/
theorem OwnParts.other {w : World} {base b n c : Nat} {v : Value} {ps : List (List UInt8)} {ys : List Value} (h : OwnParts w base v ps) (hrow : w.ownsRow base 23 1 (.slice (some ⟨b, 0, none⟩) n c) n ys) (ha : ∀ g, v.ownBlock = some g → g ≠ b) (j : Nat) (x : Value) : OwnParts (w.setCell ⟨b, j, none⟩ x) base v ps := by
  obtain ⟨us, k1, k2, k3⟩ := h
  refine ⟨us, k1, own_other k2 ha j x, fun k u p hu hp => own_other (k3 k u p hu hp) (fun g hg e => ?_) j x⟩
  subst e
  exact far_type (k3 k u p hu hp) hrow (by decide) g hg rfl
theorem OwnMany.other {α : Type} {pf : α → List (List UInt8)} {w : World} {base b n c : Nat} {os : List α} {xs ys : List Value} (h : OwnMany pf w base os xs) (hrow : w.ownsRow base 23 1 (.slice (some ⟨b, 0, none⟩) n c) n ys) (ha : ∀ x ∈ xs, ∀ g, x.ownBlock = some g → g ≠ b) (j : Nat) (x : Value) : OwnMany pf (w.setCell ⟨b, j, none⟩ x) base os xs :=
  ⟨h.1, fun k o u ho hu => (h.2.1 k o u ho hu).other hrow (ha u (List.mem_of_getElem? hu)) j x, h.2.2⟩
theorem OwnParts.set {w : World} {base b n c : Nat} {ps : List (List UInt8)} (h : OwnParts w base (.slice (some ⟨b, 0, none⟩) n c) ps) {k : Nat} (hk : k < ps.length) {u : Value} {bl : List UInt8} (hu : OB w base u bl) : OwnParts (w.setCell ⟨b, k, none⟩ u) base (.slice (some ⟨b, 0, none⟩) n c) (ps.set k bl) := by
  obtain ⟨us, k1, k2, k3⟩ := h
  obtain ⟨A', c', hf⟩ := own_form k2
  injection hf with hf1 hf2 hf3
  subst hf2
  have hn : ∀ {v : Value} {l : List UInt8}, OB w base v l → ∀ g, v.ownBlock = some g → g ≠ b := fun hv g hg e => by
    subst e
    exact far_type hv k2 (by decide) g hg rfl
  have hst := (k2.stored k u).1
  refine ⟨us.set k u, by simp [k1], ?_, fun j v p hv hp => ?_⟩
  · rw [List.length_set]
    exact hst
  · by_cases hjk : j = k
    · subst hjk
      rw [List.getElem?_set_self (by omega)] at hv
      rw [List.getElem?_set_self hk] at hp
      obtain rfl := Option.some.inj hv
      obtain rfl := Option.some.inj hp
      exact own_other hu (hn hu) j _
    · rw [List.getElem?_set_ne (Ne.symm hjk)] at hv hp
      exact own_other (k3 j v p hv hp) (hn (k3 j v p hv hp)) k _

/-! ### The state with one message taken out -/
structure RSt (os : List OutS) (js : List InS) (x : InS) (w wx : World) (g N : Nat) (vi vm : Value) (bm : Nat) (idc lwc vs xs : List Value) : Prop where
  below : Below w.heap.size w wx
  b0 : Box wx w.heap.size [.slice (some ⟨g, 0, none⟩) N N, vi]
  b1 : Box wx (w.heap.size + 1) idc
  b2 : Box wx (w.heap.size + 1 + 1) lwc
  b3 : Box wx (w.heap.size + 1 + 1 + 1) [.slice none 0 0, .slice none 0 0]
  rowO : wx.ownsRow (w.heap.size + 4) 75 10 (.slice (some ⟨g, 0, none⟩) N N) N (flat2 outCs os xs)
  hN : os.length = N
  manyO : OwnMany OutS.parts wx (w.heap.size + 4) os xs
  cross : Cross xs (vs ++ [vm])
  bx : BT wx bm 95 (inCs x vm)
  bm4 : w.heap.size + 4 ≤ bm
  ap : ∀ g', vi.ownBlock = some g' → g' ≠ bm
  row : wx.ownsRow (w.heap.size + 4) 95 11 vi js.length (flat2 inCs js vs)
  many : OwnMany InS.parts wx (w.heap.size + 4) (js ++ [x]) (vs ++ [vm])
section
variable {os : List OutS} {js : List InS} {x x' : InS} {w wx wy : World} {g N : Nat} {vi vm : Value} {bm : Nat} {idc lwc vs xs : List Value}
theorem RSt.on (h : RSt os js x w wx g N vi vm bm idc lwc vs xs) (hb : Below wx.heap.size wx wy) : RSt os js x w wy g N vi vm bm idc lwc vs xs :=
  ⟨bthen h.below hb, h.b0.on hb, h.b1.on hb, h.b2.on hb, h.b3.on hb, own_on h.rowO hb, h.hN, h.manyO.on hb, h.cross, h.bx.on hb, h.bm4, h.ap, own_on h.row hb, h.many.on hb⟩
theorem RSt.mrow (h : RSt os js x w wx g N vi vm bm idc lwc vs xs) : wx.ownsRow (w.heap.size + 4) 95 11 (.slice (some ⟨bm, 0, none⟩) 1 1) 1 (inCs x vm) := h.bx.row h.bm4 rfl
theorem RSt.og (h : RSt os js x w wx g N vi vm bm idc lwc vs xs) : OwnRow outCs 10 OutS.parts 75 wx (w.heap.size + 4) (.slice (some ⟨g, 0, none⟩) N N) os := ⟨xs, by rw [h.hN]; exact h.rowO, h.manyO⟩
/-- The message's parts; the others'. -/
theorem RSt.vlen (h : RSt os js x w wx g N vi vm bm idc lwc vs xs) : vs.length = js.length := by have := h.many.1; simpa using this
theorem RSt.parts (h : RSt os js x w wx g N vi vm bm idc lwc vs xs) : OwnParts wx (w.heap.size + 4) vm x.parts :=
  h.many.2.1 js.length x vm (by rw [List.getElem?_append_right (Nat.le_refl _), Nat.sub_self]; rfl) (by rw [List.getElem?_append_right (by rw [h.vlen]; exact Nat.le_refl _), h.vlen, Nat.sub_self]; rfl)
theorem RSt.others (h : RSt os js x w wx g N vi vm bm idc lwc vs xs) : OwnMany InS.parts wx (w.heap.size + 4) js vs ∧ ∀ y ∈ vs, Apart y vm := by
  have hv := h.vlen
  obtain ⟨h1, h2, h3⟩ := h.many
  refine ⟨⟨hv, fun k o u ho hu => ?_, fun j k u y hjk hu hy => ?_⟩, fun y hy => ?_⟩
  · have hk := (List.getElem?_eq_some_iff.1 ho).1
    exact h2 k o u (by rw [List.getElem?_append_left hk]; exact ho) (by rw [List.getElem?_append_left (by omega)]; exact hu)
  · have hk := (List.getElem?_eq_some_iff.1 hy).1
    exact h3 j k u y hjk (by rw [List.getElem?_append_left (by omega)]; exact hu) (by rw [List.getElem?_append_left hk]; exact hy)
  · obtain ⟨j, hj, rfl⟩ := List.getElem_of_mem hy
    exact h3 j js.length _ vm (by omega) (by rw [List.getElem?_append_left hj]; exact List.getElem?_eq_getElem hj) (by rw [List.getElem?_append_right (by omega), hv, Nat.sub_self]; rfl)
/-- A field of the message is stored; its slice's among them. -/
theorem RSt.store (h : RSt os js x w wx g N vi vm bm idc lwc vs xs) {j : Nat} {u vm' : Value} (hs : (inCs x vm).set j u = inCs x' vm') (hv : OwnParts wx (w.heap.size + 4) vm' x'.parts) (ha : ∀ y ∈ vs, Apart y vm') (hx : ∀ y ∈ xs, Apart y vm') : RSt os js x' w (wx.setCell ⟨bm, j, none⟩ u) g N vi vm' bm idc lwc vs xs := by
  have h4 := h.bm4
  refine ⟨h.below.setCell (by show _ ≤ bm; omega) _, h.b0.far (by show _ ≠ bm; omega) _, h.b1.far (by show _ ≠ bm; omega) _, h.b2.far (by show _ ≠ bm; omega) _, h.b3.far (by show _ ≠ bm; omega) _,
    own_other h.rowO (fun g1 hg e => ?_) j u, h.hN, h.manyO.store h.mrow (by decide) (by decide) j u, ?_, hs ▸ h.bx.set j u, h4, h.ap, own_other h.row h.ap j u, ?_⟩
  · subst e
    exact far_type h.rowO h.mrow (by decide) g1 hg rfl
  · intro y hy z hz
    rcases List.mem_append.1 hz with hz | hz
    · exact h.cross y hy z (List.mem_append_left _ hz)
    · simp only [List.mem_singleton] at hz
      subst hz
      exact hx y hy
  · exact own_many_snoc (h.others.1.store h.mrow (by decide) (by decide) j u) (hv.store h.mrow (by decide) (by decide) j u) ha
theorem RSt.setM (h : RSt os js x w wx g N vi vm bm idc lwc vs xs) {j : Nat} {u : Value} (hs : (inCs x vm).set j u = inCs x' vm) (hp : x'.parts = x.parts) : RSt os js x' w (wx.setCell ⟨bm, j, none⟩ u) g N vi vm bm idc lwc vs xs :=
  h.store hs (by rw [hp]; exact h.parts) h.others.2 fun y hy => h.cross y hy vm (List.mem_append_right _ (List.mem_singleton.2 rfl))
theorem RSt.drop (h : RSt os js x w wx g N vi vm bm idc lwc vs xs) (hs : (inCs x vm).set 6 (.slice none 0 0) = inCs x' (.slice none 0 0)) (hp : x'.parts = []) : RSt os js x' w (wx.setCell ⟨bm, 6, none⟩ (.slice none 0 0)) g N vi (.slice none 0 0) bm idc lwc vs xs :=
  h.store hs (by rw [hp]; exact ⟨[], rfl, World.ownsRow_nil _ _ _ _, fun k u p hu _ => by simp at hu⟩) (fun y _ g hg h2 => by simp [Value.ownBlock] at h2) fun y _ g hg h2 => by simp [Value.ownBlock] at h2
/-- A part of the message is stored. -/
theorem RSt.part {bp n c : Nat} (h : RSt os js x w wx g N vi (.slice (some ⟨bp, 0, none⟩) n c) bm idc lwc vs xs) {k : Nat} (hk : k < x.parts.length) {u : Value} {bl : List UInt8} (hu : OB wx (w.heap.size + 4) u bl) (hs : inCs x (.slice (some ⟨bp, 0, none⟩) n c) = inCs x' (.slice (some ⟨bp, 0, none⟩) n c)) (hp : x'.parts = x.parts.set k bl) :
    RSt os js x' w (wx.setCell ⟨bp, k, none⟩ u) g N vi (.slice (some ⟨bp, 0, none⟩) n c) bm idc lwc vs xs := by
  obtain ⟨us, k1, k2, k3⟩ := id h.parts
  obtain ⟨A', c', hf⟩ := own_form k2
  injection hf with hf1 hf2 hf3
  have hr : wx.ownsRow (w.heap.size + 4) 23 1 (.slice (some ⟨bp, 0, none⟩) n c) n us := by rw [← hf2] at k2; exact k2
  have h4 : w.heap.size + 4 ≤ bp := (hr.lt bp rfl).1
  have hne : bm ≠ bp := fun e => by subst e; exact far_type h.mrow hr (by decide) _ rfl rfl
  refine ⟨h.below.setCell (by show _ ≤ bp; omega) _, h.b0.far (by show _ ≠ bp; omega) _, h.b1.far (by show _ ≠ bp; omega) _, h.b2.far (by show _ ≠ bp; omega) _, h.b3.far (by show _ ≠ bp; omega) _,
    own_other h.rowO (fun g1 hg e => ?_) k u, h.hN, h.manyO.other hr (fun y hy g1 hg e => ?_) k u, h.cross, hs ▸ h.bx.far hne _, h.bm4, h.ap, own_other h.row (fun g1 hg e => ?_) k u, ?_⟩
  · subst e
    exact far_type h.rowO hr (by decide) g1 hg rfl
  · subst e
    exact h.cross y hy _ (List.mem_append_right _ (List.mem_singleton.2 rfl)) _ hg rfl
  · subst e
    exact far_type h.row hr (by decide) g1 hg rfl
  · refine own_many_snoc (h.others.1.other hr (fun y hy g1 hg e => ?_) k u) ?_ h.others.2
    · subst e
      exact h.others.2 y hy _ hg rfl
    · rw [hp]
      exact h.parts.set hk hu
end
/-! ### Cuts of rows -/
theorem own_take {w : World} {base size n c b : Nat} {e : TypeId} {xs : List Value} (h : w.ownsRow base e size (.slice (some ⟨b, 0, none⟩) n c) n xs) {k : Nat} (hk : k ≤ n) : w.ownsRow base e size (.slice (some ⟨b, 0, none⟩) k c) k (xs.take (k * size)) := by
  obtain ⟨h1, h2⟩ := h
  have hks : k * size ≤ n * size := Nat.mul_le_mul_right _ hk
  refine ⟨by rw [List.length_take]; omega, ?_⟩
  rcases h2 with ⟨h2, _⟩ | ⟨g, cap, cur, hv, hb, hh, hnc, hcm, hcs, ht⟩
  · cases h2
  · injection hv with e1 e2 e3
    injection e1 with e1
    injection e1 with e1
    subst e1 e3
    exact .inr ⟨b, c, cur, rfl, hb, hh, by omega, hcm, hcs, by rw [← ht, List.take_take, Nat.min_eq_left hks]⟩
theorem Sl.cutN {w : World} {B size n c b off : Nat} {cs : List Value} (h : Sl w B size (.slice (some ⟨b, off, none⟩) n c) n cs) {k : Nat} (hk : k ≤ n) :
    Sl w B size (.slice (if c = k then some ⟨b, off, none⟩ else some ⟨b, off + k * size, none⟩) (n - k) (c - k)) (n - k) (cs.drop (k * size)) := by
  obtain ⟨hnc, hcm⟩ := h.cap
  have hl := h.len
  refine ⟨_, c - k, rfl, by omega, by omega, by rw [List.length_drop, hl, Nat.sub_mul], ?_⟩
  by_cases hkn : cs.drop (k * size) = []
  · exact .inl hkn
  · have hj : cs[k * size]? = some (cs[k * size]'(by
      rcases Nat.lt_or_ge (k * size) cs.length with h | h
      · exact h
      · exact absurd (List.drop_eq_nil_of_le h) hkn)) := List.getElem?_eq_getElem _
    have hlt : k * size < n * size := by rw [← hl]; exact (List.getElem?_eq_some_iff.1 hj).1
    have hkn2 : k < n := Nat.lt_of_mul_lt_mul_right hlt
    obtain ⟨b', off', e, hb, hc⟩ := h.cells hj
    injection e with e
    injection e with e1 e2
    subst e1 e2
    refine .inr ⟨b, off + k * size, by rw [if_neg (by omega)], hb, fun j u hu => ?_⟩
    rw [Nat.add_assoc]
    exact hc _ _ (by rwa [List.getElem?_drop] at hu)
/-! ### A new list of parts -/
set_option maxRecDepth 100000 in
theorem make_parts (n : Nat) (hn : n ≤ 65536) : ∃ cur : Array Value, cur.toList = List.replicate n (.slice none 0 0) ∧ ∀ W : World, (Instr.makeSlice 73 (.int .i64 (n : Int)) (.int .i64 (n : Int))).run Try.prog W = .ok (.slice (some ⟨W.heap.size, 0, none⟩) n n) (W.alloc (.cells cur 23)) := by
  refine ⟨madeCells #[.slice none 0 0] n, toList_madeCells_one _ _, ?_⟩
  obtain ⟨i, h1, h2, h3, h4⟩ := info_parts (show (Try.prog.info? 23).map (fun i => (i.zero, i.size, i.bytes)) = some (some (.slice none 0 0), 1, 24) by kernel_rfl)
  have h := make_full (P := Try.prog) (t := 73) (e := 23) Try.underlying73 h1 h2 n (by rw [h4]; omega) (by simp only [maxLen]; omega)
  rw [h3, Nat.mul_one] at h
  exact h
theorem parts_made {w : World} {n : Nat} {cur : Array Value} (hc : cur.toList = List.replicate n (.slice none 0 0)) (hn : n ≤ 65536) : OwnParts (w.alloc (.cells cur 23)) w.heap.size (.slice (some ⟨w.heap.size, 0, none⟩) n n) (List.replicate n []) := by
  refine ⟨cur.toList, by rw [hc]; simp, ?_, fun k u p hu hp => ?_⟩
  · rw [List.length_replicate]
    exact own_row (by rw [heap_alloc_new]) (Nat.le_refl _) (by simp only [maxLen]; omega) (by rw [hc]; simp)
  · rw [hc] at hu
    have h1 : u = .slice none 0 0 := by
      have := List.mem_of_getElem? hu
      exact List.eq_of_mem_replicate this
    have h2 : p = [] := List.eq_of_mem_replicate (List.mem_of_getElem? hp)
    subst h1 h2
    exact World.ownsRow_nil _ _ _ _
/-- Which message it is. -/
theorem pick_place {is : List InS} {src dst iv ze : Nat} {p : Low} (h : (placeR is src dst iv ze p).2 = true) : ((placeR is src dst iv ze p).1 = -1 ∧ pickIn is src dst ze iv p = (newIn src dst ze iv p, is)) ∨
    ∃ (i : Nat) (x : InS), is[i]? = some x ∧ (placeR is src dst iv ze p).1 = (i : Int) ∧ pickIn is src dst ze iv p = (x, is.eraseIdx i) ∧ x.last = p.last ∧ x.app = p.app ∧ sameIn src dst iv ze x = true := by
  unfold placeR pickIn at *
  cases hf : is.findIdx? (sameIn src dst iv ze) with
  | none => exact .inl ⟨rfl, rfl⟩
  | some i =>
    rw [hf] at h
    obtain ⟨hi, hs, _⟩ := List.findIdx?_eq_some_iff_getElem.1 hf
    have hx : is.getD i ⟨0, 0, false, 0, 0, 0, [], 0, 0, 0, false⟩ = is[i] := by rw [List.getD_eq_getElem?_getD, List.getElem?_eq_getElem hi]; rfl
    simp only [hx] at h ⊢
    cases ho : otherIn p is[i] with
    | true => rw [ho] at h; simp at h
    | false =>
      refine .inr ⟨i, is[i], List.getElem?_eq_getElem hi, by simp, rfl, ?_, ?_, hs⟩
      · unfold otherIn at ho; simp at ho; exact ho.2
      · unfold otherIn at ho; simp at ho; exact ho.1
/-- The state, a message in a box of its own beside it. -/
theorem RSt.start {os : List OutS} {is : List InS} {x : InS} {w w5 W : World} {g h N M bm bp n : Nat} {idc lwc ys xs : List Value} (hA : Below w.heap.size w w5) (h0 : Box w5 w.heap.size [.slice (some ⟨g, 0, none⟩) N N, .slice (some ⟨h, 0, none⟩) M M]) (h1 : Box w5 (w.heap.size + 1) idc) (h2 : Box w5 (w.heap.size + 1 + 1) lwc) (h3 : Box w5 (w.heap.size + 1 + 1 + 1) [.slice none 0 0, .slice none 0 0])
    (hO : w5.ownsRow (w.heap.size + 4) 75 10 (.slice (some ⟨g, 0, none⟩) N N) N (flat2 outCs os xs)) (hN : os.length = N) (hOM : OwnMany OutS.parts w5 (w.heap.size + 4) os xs) (hM : is.length = M) (hI : w5.ownsRow (w.heap.size + 4) 95 11 (.slice (some ⟨h, 0, none⟩) M M) M (flat2 inCs is ys)) (hIM : OwnMany InS.parts w5 (w.heap.size + 4) is ys) (hc : Cross xs ys)
    (hb : Below w5.heap.size w5 W) (hm : BT W bm 95 (inCs x (.slice (some ⟨bp, 0, none⟩) n n))) (hp : OwnParts W w5.heap.size (.slice (some ⟨bp, 0, none⟩) n n) x.parts) (h5 : w5.heap.size ≤ bm) (hz : w.heap.size + 1 + 1 + 1 < w5.heap.size) :
    RSt os is x w W g N (.slice (some ⟨h, 0, none⟩) M M) (.slice (some ⟨bp, 0, none⟩) n n) bm idc lwc ys xs := by
  subst hM
  have ha : ∀ {α : Type} {pf : α → List (List UInt8)} {ls : List α} {vs : List Value}, OwnMany pf w5 (w.heap.size + 4) ls vs → ∀ y ∈ vs, Apart y (.slice (some ⟨bp, 0, none⟩) n n) := by
    intro α pf ls vs hl y hy
    obtain ⟨q, hq, rfl⟩ := List.getElem_of_mem hy
    have hqo : q < ls.length := by rw [← hl.1]; exact hq
    obtain ⟨_, _, k2, _⟩ := hl.2.1 q _ _ (List.getElem?_eq_getElem hqo) (List.getElem?_eq_getElem hq)
    obtain ⟨_, _, k3, _⟩ := hp
    exact Apart.of_base k2 k3 (Nat.le_refl _)
  refine ⟨bthen hA hb, h0.on hb, h1.on hb, h2.on hb, h3.on hb, own_on hO hb, hN, hOM.on hb, fun y hy z hzz => ?_, hm, by omega, fun g' hg => ?_, own_on hI hb, own_many_snoc (hIM.on hb) (hp.low (by omega)) (ha hIM)⟩
  · rcases List.mem_append.1 hzz with hzz | hzz
    · exact hc y hy z hzz
    · simp only [List.mem_singleton] at hzz
      subst hzz
      exact ha hOM y hy
  · have := (hI.lt g' hg).2
    omega
theorem OwnMany.putsT {α : Type} {pf : α → List (List UInt8)} {w : World} {base b n c size : Nat} {t : TypeId} {os : List α} {xs ys : List Value} (h : OwnMany pf w base os xs) (hrow : w.ownsRow base t size (.slice (some ⟨b, 0, none⟩) n c) n ys) (ht : 23 ≠ t) (ht' : 5 ≠ t) (o : Nat) (ds : List Value) : OwnMany pf (w.setCells b o ds) base os xs := by
  induction ds generalizing w o ys with
  | nil => exact h
  | cons d ds ih => exact ih (h.store hrow ht ht' o d) (hrow.stored o d).1 (o + 1)
theorem al_drew (w : World) : Below w.heap.size w w.drew := (Below.refl _ _).drew
/-- The state, a message of the row copied into the box. -/
structure PSt (os : List OutS) (is : List InS) (x : InS) (w wx : World) (g h N M : Nat) (vm : Value) (bm : Nat) (idc lwc ys xs : List Value) : Prop where
  below : Below w.heap.size w wx
  b0 : Box wx w.heap.size [.slice (some ⟨g, 0, none⟩) N N, .slice (some ⟨h, 0, none⟩) M M]
  b1 : Box wx (w.heap.size + 1) idc
  b2 : Box wx (w.heap.size + 1 + 1) lwc
  b3 : Box wx (w.heap.size + 1 + 1 + 1) [.slice none 0 0, .slice none 0 0]
  rowO : wx.ownsRow (w.heap.size + 4) 75 10 (.slice (some ⟨g, 0, none⟩) N N) N (flat2 outCs os xs)
  hN : os.length = N
  manyO : OwnMany OutS.parts wx (w.heap.size + 4) os xs
  cross : Cross xs ys
  bx : BT wx bm 95 (inCs x vm)
  bm4 : w.heap.size + 4 ≤ bm
  ap : h ≠ bm
  hM : is.length = M
  row : wx.ownsRow (w.heap.size + 4) 95 11 (.slice (some ⟨h, 0, none⟩) M M) M (flat2 inCs is ys)
  many : OwnMany InS.parts wx (w.heap.size + 4) is ys
theorem PSt.drew {os : List OutS} {is : List InS} {x : InS} {w wx : World} {g h N M : Nat} {vm : Value} {bm : Nat} {idc lwc ys xs : List Value} (s : PSt os is x w wx g h N M vm bm idc lwc ys xs) : PSt os is x w wx.drew g h N M vm bm idc lwc ys xs :=
  have hd := al_drew wx
  ⟨s.below.drew, s.b0.drew, s.b1.on hd, s.b2.on hd, s.b3.on hd, own_on s.rowO hd, s.hN, s.manyO.on hd, s.cross, s.bx.on hd, s.bm4, s.ap, s.hM, own_on s.row hd, s.many.on hd⟩
theorem RSt.pick {os : List OutS} {is : List InS} {x0 : InS} {w wx : World} {g h N M bm : Nat} {vm : Value} {idc lwc ys xs : List Value} (hs : RSt os is x0 w wx g N (.slice (some ⟨h, 0, none⟩) M M) vm bm idc lwc ys xs) (hM : is.length = M) (x : InS) (u : Value) : PSt os is x w (wx.setCells bm 0 (inCs x u)) g h N M u bm idc lwc ys xs := by
  have h4 := hs.bm4
  have hr := hs.mrow
  refine ⟨below_puts (by omega) 0 _ hs.below, hs.b0.puts_far (by omega) 0 _, hs.b1.puts_far (by omega) 0 _, hs.b2.puts_far (by omega) 0 _, hs.b3.puts_far (by omega) 0 _,
    own_puts hs.rowO (fun g1 hg e => ?_) 0 _, hs.hN, hs.manyO.putsT hr (by decide) (by decide) 0 _, fun y hy z hz => hs.cross y hy z (List.mem_append_left _ hz), hs.bx.put _ rfl, h4, hs.ap h rfl, hM, own_puts (by have := hs.row; rwa [hM] at this) (fun g1 hg => hs.ap g1 hg) 0 _, hs.others.1.putsT hr (by decide) (by decide) 0 _⟩
  subst e
  exact far_type hs.rowO hr (by decide) g1 hg rfl
/-- It is taken out of the row. -/
theorem PSt.out {os : List OutS} {is : List InS} {x : InS} {w wx w9 : World} {g h N M bm i n9 : Nat} {u v9 : Value} {idc lwc ys xs row9 : List Value} (hs : PSt os is x w wx g h N M u bm idc lwc ys xs) (hx : is[i]? = some x) (hu : ys[i]? = some u)
    (h9 : w9.ownsRow (w.heap.size + 4) 95 11 v9 n9 row9) (hn : n9 = M - 1) (hr9 : row9 = (flat2 inCs is ys).take (i * 11) ++ (flat2 inCs is ys).drop ((i + 1) * 11)) (hg : wx.grownBy w9 (some h)) (hat : v9.ownBlock = some h ∨ v9.ownBlock = some wx.heap.size) :
    RSt os (is.eraseIdx i) x w (w9.setCell ⟨w.heap.size, 1, none⟩ v9) g N v9 u bm idc lwc (ys.eraseIdx i) xs := by
  have h4 := hs.bm4
  have hlt := hs.row.lt h rfl
  have hbz := hs.bx.box.lt
  have hi : i < is.length := (List.getElem?_eq_some_iff.1 hx).1
  have hvl := hs.many.1
  have hbel : Below w.heap.size w w9 := hs.below.grown hg hs.below.size fun k hk => by
    have : k = h := by simpa using hk.symm
    omega
  have hne : ∀ b, b < w.heap.size + 4 → (some b : Option Nat) ≠ some h := fun b hb e => by
    have : b = h := by simpa using e
    omega
  refine ⟨hbel.setCell (Nat.le_refl _) _, (hs.b0.grown hg (hne _ (by omega))).set 1 v9, (hs.b1.grown hg (hne _ (by omega))).far (by show _ ≠ w.heap.size; omega) _, (hs.b2.grown hg (hne _ (by omega))).far (by show _ ≠ w.heap.size; omega) _, (hs.b3.grown hg (hne _ (by omega))).far (by show _ ≠ w.heap.size; omega) _,
    own_far (own_grown_type hs.rowO hs.row (by decide) hg) (by omega) 1 _, hs.hN, OwnMany.far (hs.manyO.grown hs.row (by decide) (by decide) hg) (by omega) 1 _, fun y hy z hz => ?_, (hs.bx.grown hg (fun e => hs.ap (by simpa using e.symm))).far (by show _ ≠ w.heap.size; omega) _, h4, fun g' hg' => ?_, ?_, own_many_pick (OwnMany.far (hs.many.grown hs.row (by decide) (by decide) hg) (by omega) 1 _) hx hu⟩
  · rcases List.mem_append.1 hz with hz | hz
    · exact hs.cross y hy z (List.mem_of_mem_eraseIdx hz)
    · simp only [List.mem_singleton] at hz
      subst hz
      exact hs.cross y hy _ (List.mem_of_getElem? hu)
  · rcases hat with hat | hat <;> rw [hat] at hg' <;> simp only [Option.some.injEq] at hg'
    · have := hs.ap; omega
    · omega
  · have e1 : (is.eraseIdx i).length = n9 := by rw [List.length_eraseIdx_of_lt hi, hn, hs.hM]
    have e2 : flat2 inCs (is.eraseIdx i) (ys.eraseIdx i) = row9 := by
      rw [hr9, flat2_take inCs_len is ys i hvl (by omega), flat2_drop inCs_len is ys (i + 1) hvl (by omega), ← flat2_append _ _ _ _ (by rw [List.length_take, List.length_take, hvl]), List.eraseIdx_eq_take_drop_succ, List.eraseIdx_eq_take_drop_succ]
    rw [e1, e2]
    exact own_far h9 (by omega) 1 _
/-- The message that is picked is well formed, and it is the segment's. -/
theorem pick_wf {is : List InS} {src dst iv ze : Nat} {p : Low} {at1 : Int} {x1 : InS} {js1 : List InS} (hi : WfIs is) (h1 : 0 ≤ p.last) (h2 : p.last ≤ 31)
    (h : (at1 = -1 ∧ (x1, js1) = (newIn src dst ze iv p, is)) ∨ ∃ (i : Nat) (x : InS), is[i]? = some x ∧ at1 = (i : Int) ∧ (x1, js1) = (x, is.eraseIdx i) ∧ x.last = p.last ∧ x.app = p.app ∧ sameIn src dst iv ze x = true) :
    WfIn x1 ∧ x1.last = p.last ∧ x1.app = p.app ∧ js1.length ≤ 8 := by
  rcases h with ⟨_, h⟩ | ⟨i, x, hx, _, h, hl, ha, _⟩
  · obtain ⟨rfl, rfl⟩ := Prod.mk.inj h
    refine ⟨⟨h1, h2, fun _ => by simp [newIn], by simp [newIn]; omega, fun q hq => ?_, by simp [newIn]⟩, rfl, rfl, hi.1⟩
    have : q = [] := List.eq_of_mem_replicate hq
    subst this
    simp
  · obtain ⟨rfl, rfl⟩ := Prod.mk.inj h
    have hlt := (List.getElem?_eq_some_iff.1 hx).1
    have := hi.1
    exact ⟨hi.2 _ (List.mem_of_getElem? hx), hl, ha, by rw [List.length_eraseIdx_of_lt hlt]; omega⟩
theorem OwnM.store {α : Type} {f : α → Value → List Value} {m : Nat} {bf : α → List UInt8} {t : TypeId} {w : World} {base : Nat} {v : Value} {ps : List α} {size n g c : Nat} {t' : TypeId} {ys : List Value} (h : OwnM f m bf t w base v ps) (hrow : w.ownsRow base t' size (.slice (some ⟨g, 0, none⟩) n c) n ys) (h0 : t ≠ t') (h2 : 5 ≠ t') (j : Nat) (x : Value) : OwnM f m bf t (w.setCell ⟨g, j, none⟩ x) base v ps := by
  obtain ⟨vs, k1, k2, k3⟩ := h
  refine ⟨vs, k1, own_other k2 (fun g1 hg e => ?_) j x, fun k p u hp hu => own_other (k3 k p u hp hu) (fun g1 hg e => ?_) j x⟩
  · subst e
    exact far_type k2 hrow h0 g1 hg rfl
  · subst e
    exact far_type (k3 k p u hp hu) hrow h2 g1 hg rfl
/-- Messages of the call's own. -/
abbrev OwnAccs (w : World) (base : Nat) (v : Value) (ms : List Msg) : Prop := OwnM accF 8 (fun a => a.2) 43 w base v ms
theorem accs_own {w : World} {base : Nat} (a : AccS) (l : List UInt8) (A : Option Addr) (c : Nat) (h : OB w base (.slice A l.length c) l) (hb : base ≤ w.heap.size) : OwnAccs (w.alloc (.cells (accCs a (.slice A l.length c)).toArray 43)) base (.slice (some ⟨w.heap.size, 0, none⟩) 1 1) [(a, l)] := by
  refine ⟨[.slice A l.length c], rfl, ?_, fun k p u hp hu => ?_⟩
  · exact own_base (World.ownsRow_lit (base := w.heap.size) (e := 43) (size := 8) w (accCs a (.slice A l.length c)).toArray 1 (Nat.le_refl _) (by simp [maxLen]) rfl) hb
  · rcases k with _ | k
    · simp only [List.getElem?_cons_zero, Option.some.injEq] at hp hu
      subst hp hu
      exact h.alloc _
    · simp at hp
theorem bit_and1 {b : Nat} (k : Nat) (hb : b < 4294967296) : bits BinOp.and IntKind.u32 ((b : Int) / 2 ^ k) 1 = ((b / 2 ^ k % 2 : Nat) : Int) := by
  have e : ((b : Int) / 2 ^ k) = ((b / 2 ^ k : Nat) : Int) := by push_cast; rfl
  have h := u32_and_nat (b / 2 ^ k) 1 (Nat.lt_of_le_of_lt (Nat.div_le_self _ _) hb) (by omega)
  rw [e]
  rw [Nat.and_one_is_mod] at h
  exact h
theorem bit_or {b k : Nat} (hb : b < 4294967296) (hk : k ≤ 31) (h0 : b / 2 ^ k % 2 = 0) : bits BinOp.or IntKind.u32 (b : Int) ((2 : Int) ^ k % 4294967296) = ((b + 2 ^ k : Nat) : Int) := by
  have h1 : 2 ^ k ≤ 2 ^ 31 := Nat.pow_le_pow_right (by omega) hk
  have e : ((2 : Int) ^ k % 4294967296) = ((2 ^ k : Nat) : Int) := by
    have e1 : ((2 : Int) ^ k) = ((2 ^ k : Nat) : Int) := by push_cast; rfl
    rw [e1]
    have h2 : 2 ^ k ≤ 2147483648 := h1
    generalize 2 ^ k = q at *
    omega
  have h := u32_or_nat b (2 ^ k) hb (Nat.lt_of_le_of_lt h1 (by decide))
  rw [e, h, or_bit h0]
/-- A set of bits stays below the width. -/
theorem or_lt {b k n : Nat} (hb : b < 2 ^ n) (hk : k < n) (h0 : b / 2 ^ k % 2 = 0) : b + 2 ^ k < 2 ^ n := by
  rw [← or_bit h0]
  exact Nat.or_lt_two_pow hb (Nat.pow_lt_pow_right (by omega) hk)
theorem putIn_no {x : InS} {k : Nat} {bl : List UInt8} {ttl : Int} (h : ¬ x.blk / 2 ^ k % 2 = 0) : putIn x k bl ttl = { x with ttl := ttl } := if_neg h
theorem putIn_yes {x : InS} {k : Nat} {bl : List UInt8} {ttl : Int} (h : x.blk / 2 ^ k % 2 = 0) : putIn x k bl ttl = { x with ttl := ttl, blk := x.blk + 2 ^ k, parts := x.parts.set k bl } := if_pos h
theorem putIn_keep (x : InS) (k : Nat) (bl : List UInt8) (ttl : Int) : ∃ b ps, putIn x k bl ttl = ⟨x.src, x.dst, x.app, x.zero, x.iv, x.last, ps, b, x.due, ttl, x.fin⟩ ∧ ps.length = x.parts.length := by
  by_cases h : x.blk / 2 ^ k % 2 = 0
  · exact ⟨_, _, putIn_yes h, List.length_set⟩
  · exact ⟨_, _, putIn_no h, rfl⟩
theorem putIn_small {x : InS} {k : Nat} {bl : List UInt8} {ttl : Int} (h : ∀ p ∈ x.parts, p.length ≤ 65536) (hb : bl.length ≤ 65536) : ∀ p ∈ (putIn x k bl ttl).parts, p.length ≤ 65536 := by
  by_cases h0 : x.blk / 2 ^ k % 2 = 0
  · rw [putIn_yes h0]
    intro p hp
    rcases List.mem_or_eq_of_mem_set hp with hp | rfl
    · exact h p hp
    · exact hb
  · rw [putIn_no h0]; exact h
theorem flatten_small : ∀ (ps : List (List UInt8)), (∀ p ∈ ps, p.length ≤ 65536) → ps.flatten.length ≤ 65536 * ps.length
  | [], _ => by simp
  | p :: ps, h => by
    have h1 := h p (List.mem_cons_self ..)
    have h2 := flatten_small ps fun q hq => h q (List.mem_cons_of_mem _ hq)
    rw [List.flatten_cons, List.length_append, List.length_cons]
    omega
theorem midIn_no {x : InS} {k : Nat} {bl : List UInt8} {ttl now : Int} {nd : Bool} (h : x.fin = false) : midIn x k bl ttl now nd = endIn (putIn x k bl ttl) nd now := by unfold midIn; rw [if_neg (by rw [h]; simp)]
theorem quiet_at {P : Program} {f : FuncId} {args : Array Value} {w : World} {n : Nat} {v : Value}
    (h : Calls P f args (w.drewN n) fun e w' => e = .returned v ∧ w.drewN n = w') : Calls P f args (w.drewN n) fun e w'' => e = .returned v ∧ ∃ m, w'' = w.drewN m :=
  h.mono fun _ _ ⟨he, hm⟩ => ⟨he, n, hm.symm⟩
theorem endIn_full {y : InS} {nd : Bool} {now : Int} (h : y.blk = full (y.last + 1).toNat) : endIn y nd now = ({ y with fin := true, parts := [] }, true) := if_pos h
theorem endIn_due {y : InS} {nd : Bool} {now : Int} (h : ¬ y.blk = full (y.last + 1).toNat) (hd : nd = true ∧ y.due = 0) : endIn y nd now = ({ y with due := now + 10 }, false) := by unfold endIn; rw [if_neg h, if_pos hd]
theorem endIn_not {y : InS} {nd : Bool} {now : Int} (h : ¬ y.blk = full (y.last + 1).toNat) (hd : ¬ (nd = true ∧ y.due = 0)) : endIn y nd now = (y, false) := by unfold endIn; rw [if_neg h, if_neg hd]
theorem join_parts {w : World} {A : Option Addr} {n c : Nat} {ps : List (List UInt8)} (h : PartsV w w.heap.size (.slice A n c) ps) (hn : ps.length ≤ 65536) (hl : ps.flatten.length ≤ 140737488355328) : Calls Try.prog 35 #[.slice A n c] w (BytesPost w ps.flatten) := by
  obtain ⟨us, h1, h2, h3⟩ := h
  obtain ⟨A', c', hf, _⟩ := id h2
  injection hf with e1 e2 e3
  subst e2
  rw [← h1] at h2 ⊢
  exact join_any us ps A c w h2 h3 hl (by omega)
/-- The message is laid at the row's end. -/
structure FSt (os : List OutS) (ks : List InS) (w wx : World) (g N : Nat) (v9 : Value) (ws xs : List Value) : Prop where
  below : Below w.heap.size w wx
  b3 : Box wx (w.heap.size + 1 + 1 + 1) [.slice none 0 0, .slice none 0 0]
  og : OwnRow outCs 10 OutS.parts 75 wx (w.heap.size + 4) (.slice (some ⟨g, 0, none⟩) N N) os
  row : wx.ownsRow (w.heap.size + 4) 95 11 v9 ks.length (flat2 inCs ks ws)
  many : OwnMany InS.parts wx (w.heap.size + 4) ks ws
theorem FSt.far {os : List OutS} {ks : List InS} {w wx : World} {g N : Nat} {v9 : Value} {ws xs : List Value} (h : FSt os ks w wx g N v9 ws xs) (j : Nat) (u : Value) : FSt os ks w (wx.setCell ⟨w.heap.size, j, none⟩ u) g N v9 ws xs :=
  ⟨h.below.setCell (Nat.le_refl _) _, h.b3.far (by show _ ≠ w.heap.size; omega) _, ownRow_far h.og (by omega) j u, own_far h.row (by omega) j u, OwnMany.far h.many (by omega) j u⟩
theorem RSt.push {os : List OutS} {js : List InS} {x : InS} {w wx w9 : World} {g N : Nat} {vi vm v9 : Value} {bm : Nat} {idc lwc vs xs : List Value} (h : RSt os js x w wx g N vi vm bm idc lwc vs xs) (h9 : w9.ownsRow (w.heap.size + 4) 95 11 v9 (js.length + 1) (flat2 inCs js vs ++ inCs x vm)) (hg : wx.grownBy w9 vi.ownBlock) :
    FSt os (js ++ [x]) w w9 g N v9 (vs ++ [vm]) xs ∧ Box w9 w.heap.size [.slice (some ⟨g, 0, none⟩) N N, vi] := by
  have hne : ∀ b, b < w.heap.size + 4 → (some b : Option Nat) ≠ vi.ownBlock := fun b hb e => by
    have := (h.row.lt b e.symm).1
    omega
  refine ⟨⟨h.below.grown hg h.below.size fun k hk => ?_, h.b3.grown hg (hne _ (by omega)), h.og.grown h.row (by decide) (by decide) (by decide) hg, ?_, h.many.grown h.row (by decide) (by decide) hg⟩, h.b0.grown hg (hne _ (by omega))⟩
  · have := (h.row.lt k hk).1
    omega
  · rw [flat2_append _ _ _ _ h.vlen, flat2_one, show (js ++ [x]).length = js.length + 1 by simp]
    exact h9
/-- The last of them are kept. -/
theorem Sl2.cutN {w : World} {b0 B size n c b off : Nat} {cs : List Value} (h : Sl2 w b0 B size (.slice (some ⟨b, off, none⟩) n c) n cs) {k : Nat} (hk : k ≤ n) :
    Sl2 w b0 B size (.slice (if c = k then some ⟨b, off, none⟩ else some ⟨b, off + k * size, none⟩) (n - k) (c - k)) (n - k) (cs.drop (k * size)) := by
  obtain ⟨A', c', hv, h1, h2, h3, h4⟩ := h.weak.cutN hk
  refine ⟨A', c', hv, h1, h2, h3, ?_⟩
  rcases h4 with h4 | ⟨b', off', hA, hb, hc⟩
  · exact .inl h4
  obtain ⟨A0, c0, e0, _, _, _, g4⟩ := h
  rcases g4 with rfl | ⟨b'', off'', hA0, hb0, _, _⟩
  · exact .inl (by simp)
  · injection e0 with e1 _ _
    rw [hA0] at e1
    simp only [Option.some.injEq, Addr.mk.injEq] at e1
    injection hv with e2 _ _
    rw [hA] at e2
    have hbb : b' = b := by
      split at e2 <;> (simp only [Option.some.injEq, Addr.mk.injEq] at e2; exact e2.1.symm)
    exact .inr ⟨b', off', hA, by omega, hb, hc⟩
theorem keep_rows {ks : List InS} {base : Nat} {wx : World} {g9 n9 c9 : Nat} {ws : List Value} (hrow : wx.ownsRow base 95 11 (.slice (some ⟨g9, 0, none⟩) n9 c9) ks.length (flat2 inCs ks ws)) (hmany : OwnMany InS.parts wx base ks ws) {k : Nat} (hk : k ≤ ks.length) : RowV2 inCs 11 InS.parts wx base wx.heap.size (.slice (if c9 = k then some ⟨g9, 0, none⟩ else some ⟨g9, k * 11, none⟩) (ks.length - k) (c9 - k)) (ks.drop k) := by
  obtain ⟨A', c', hf⟩ := own_form hrow
  injection hf with _ hf2 _
  have hs := Sl2.of_own hrow
  rw [hf2] at hs
  have h1 := hs.cutN hk
  rw [Nat.zero_add] at h1
  refine ⟨ws.drop k, by rw [List.length_drop, List.length_drop, hmany.1], ?_, fun j o u ho hu => ?_⟩
  · rw [List.length_drop, ← flat2_drop inCs_len ks ws k hmany.1 hk]
    exact h1
  · rw [List.getElem?_drop] at ho hu
    exact (hmany.2.1 _ o u ho hu).up
end Go.Proofs.Ytkpjinkkjbljkaa
