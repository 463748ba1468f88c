/- The state of the lower transport layer as plain data, and how it lies in memory: lists of structs, lists of parts. No condition. -/
import Derived.Test.YtkpjinkkjbljkaaOct3
import Derived.Test.YtkpjinkkjbljkaaBy
namespace Go.Proofs.Ytkpjinkkjbljkaa
open Go.RowKit

/-- A message that is being sent; one that arrives. -/
structure OutS where
  dst : Nat
  src : Nat
  app : Bool
  zero : Nat
  iv : Nat
  parts : List (List UInt8)
  ackd : Nat
  due : Int
  tries : Int
  ttl : Int
structure InS where
  src : Nat
  dst : Nat
  app : Bool
  zero : Nat
  iv : Nat
  last : Int
  parts : List (List UInt8)
  blk : Nat
  due : Int
  ttl : Int
  fin : Bool
abbrev outCs (o : OutS) (v : Value) : List Value := [.int .u16 (o.dst : Int), .int .u16 (o.src : Int), .bool o.app, .int .u32 (o.zero : Int), .int .u32 (o.iv : Int), v, .int .u32 (o.ackd : Int), .int .i64 o.due, .int .i64 o.tries, .int .i64 o.ttl]
abbrev inCs (o : InS) (v : Value) : List Value := [.int .u16 (o.src : Int), .int .u16 (o.dst : Int), .bool o.app, .int .u32 (o.zero : Int), .int .u32 (o.iv : Int), .int .i64 o.last, v, .int .u32 (o.blk : Int), .int .i64 o.due, .int .i64 o.ttl, .bool o.fin]

theorem own_form {w : World} {base : Nat} {e : TypeId} {size n : Nat} {v : Value} {xs : List Value} (h : w.ownsRow base e size v n xs) : ∃ A c, v = .slice A n c := by
  rcases h.2 with ⟨rfl, rfl⟩ | ⟨g, cap, cur, rfl, _⟩
  · exact ⟨none, 0, rfl⟩
  · exact ⟨_, cap, rfl⟩

/-! ### Structs, one after the other -/
section
variable {α β : Type}
/-- The cells of structs whose slices are these values. -/
def flat2 (f : α → β → List Value) (os : List α) (vs : List β) : List Value := (List.zipWith f os vs).flatten
theorem flat2_nil (f : α → β → List Value) (vs : List β) : flat2 f [] vs = [] := rfl
theorem flat2_cons (f : α → β → List Value) (o : α) (os : List α) (v : β) (vs : List β) : flat2 f (o :: os) (v :: vs) = f o v ++ flat2 f os vs := rfl
theorem flat2_len {f : α → β → List Value} {m : Nat} (hf : ∀ o v, (f o v).length = m) : ∀ (os : List α) (vs : List β), vs.length = os.length → (flat2 f os vs).length = os.length * m
  | [], _, _ => by simp [flat2]
  | o :: os, [], h => by simp at h
  | o :: os, v :: vs, h => by
    rw [flat2_cons, List.length_append, hf, flat2_len hf os vs (by simpa using h), List.length_cons, Nat.succ_mul]
    omega
theorem flat2_append {f : α → β → List Value} : ∀ (os : List α) (vs : List β) (os' : List α) (vs' : List β), vs.length = os.length → flat2 f (os ++ os') (vs ++ vs') = flat2 f os vs ++ flat2 f os' vs'
  | [], [], _, _, _ => rfl
  | [], _ :: _, _, _, h => by simp at h
  | o :: os, [], _, _, h => by simp at h
  | o :: os, v :: vs, os', vs', h => by
    rw [List.cons_append, List.cons_append, flat2_cons, flat2_cons, flat2_append os vs os' vs' (by simpa using h), List.append_assoc]
theorem flat2_one (f : α → β → List Value) (o : α) (v : β) : flat2 f [o] [v] = f o v := by simp [flat2]
/-- The cell number j of struct number k. -/
theorem flat2_at {f : α → β → List Value} {m : Nat} (hf : ∀ o v, (f o v).length = m) : ∀ (os : List α) (vs : List β) (k : Nat) (o : α) (v : β) (j : Nat), vs.length = os.length → os[k]? = some o → vs[k]? = some v → j < m → (flat2 f os vs)[k * m + j]? = (f o v)[j]?
  | [], _, k, _, _, _, _, h, _, _ => by simp at h
  | o :: os, [], _, _, _, _, h, _, _, _ => by simp at h
  | o :: os, v :: vs, 0, o', v', j, _, h1, h2, hj => by
    simp at h1 h2
    subst h1 h2
    rw [flat2_cons, List.getElem?_append_left (by rw [hf]; omega)]
    congr 1
    omega
  | o :: os, v :: vs, k + 1, o', v', j, hl, h1, h2, hj => by
    simp at h1 h2
    rw [flat2_cons, List.getElem?_append_right (by rw [hf, Nat.succ_mul]; omega), hf, show (k + 1) * m + j - m = k * m + j by rw [Nat.succ_mul]; omega]
    exact flat2_at hf os vs k o' v' j (by simpa using hl) h1 h2 hj
/-- Another struct at place k. -/
theorem flat2_set {f : α → β → List Value} {m : Nat} (hf : ∀ o v, (f o v).length = m) : ∀ (os : List α) (vs : List β) (k : Nat) (o o' : α) (v v' : β) (j : Nat) (u : Value), vs.length = os.length → os[k]? = some o → vs[k]? = some v → j < m → (f o v).set j u = f o' v' →
    (flat2 f os vs).set (k * m + j) u = flat2 f (os.set k o') (vs.set k v')
  | [], _, k, _, _, _, _, _, _, _, h, _, _, _ => by simp at h
  | o :: os, [], _, _, _, _, _, _, _, h, _, _, _, _ => by simp at h
  | o :: os, v :: vs, 0, a, a', b, b', j, u, _, h1, h2, hj, hset => by
    simp at h1 h2
    subst h1 h2
    rw [flat2_cons, List.set_cons_zero, List.set_cons_zero, flat2_cons, ← hset, show 0 * m + j = j by omega, List.set_append_left _ _ (by rw [hf]; omega)]
  | o :: os, v :: vs, k + 1, a, a', b, b', j, u, hl, h1, h2, hj, hset => by
    simp at h1 h2
    rw [flat2_cons, List.set_cons_succ, List.set_cons_succ, flat2_cons, List.set_append_right _ _ (by rw [hf, Nat.succ_mul]; omega), hf, show (k + 1) * m + j - m = k * m + j by rw [Nat.succ_mul]; omega]
    rw [flat2_set hf os vs k a a' b b' j u (by simpa using hl) h1 h2 hj hset]
theorem flat2_take {f : α → β → List Value} {m : Nat} (hf : ∀ o v, (f o v).length = m) (os : List α) (vs : List β) (k : Nat) (hl : vs.length = os.length) (hk : k ≤ os.length) : (flat2 f os vs).take (k * m) = flat2 f (os.take k) (vs.take k) := by
  have h := flat2_append (f := f) (os.take k) (vs.take k) (os.drop k) (vs.drop k) (by simp; omega)
  rw [List.take_append_drop, List.take_append_drop] at h
  rw [h, List.take_left']
  rw [flat2_len hf _ _ (by simp; omega), List.length_take, Nat.min_eq_left hk]
theorem flat2_drop {f : α → β → List Value} {m : Nat} (hf : ∀ o v, (f o v).length = m) (os : List α) (vs : List β) (k : Nat) (hl : vs.length = os.length) (hk : k ≤ os.length) : (flat2 f os vs).drop (k * m) = flat2 f (os.drop k) (vs.drop k) := by
  have h := flat2_append (f := f) (os.take k) (vs.take k) (os.drop k) (vs.drop k) (by simp; omega)
  rw [List.take_append_drop, List.take_append_drop] at h
  rw [h, List.drop_left']
  rw [flat2_len hf _ _ (by simp; omega), List.length_take, Nat.min_eq_left hk]
theorem flat2_one' {f : α → β → List Value} (hf : ∀ o v, ∀ u ∈ f o v, u.oneCell' = true) (os : List α) (vs : List β) : ∀ u ∈ flat2 f os vs, u.oneCell' = true := by
  intro u hu
  unfold flat2 at hu
  simp only [List.mem_flatten] at hu
  obtain ⟨l, hl, hu⟩ := hu
  obtain ⟨i, hi, rfl⟩ := List.mem_iff_getElem.1 hl
  rw [List.getElem_zipWith] at hu
  exact hf _ _ u hu
end

/-! ### Parts -/
/-- A slice of slices of bytes that reads as these parts. -/
def PartsV (w : World) (B : Nat) (v : Value) (ps : List (List UInt8)) : Prop := ∃ us, us.length = ps.length ∧ Sl w B 1 v ps.length us ∧ Parts w B us ps
/-- A row of the call's own of rows of its own. -/
def OwnParts (w : World) (base : Nat) (v : Value) (ps : List (List UInt8)) : Prop :=
  ∃ us : List Value, us.length = ps.length ∧ w.ownsRow base 23 1 v ps.length us ∧ ∀ (k : Nat) u p, us[k]? = some u → ps[k]? = some p → OB w base u p
section
variable {w w' : World} {B B' : Nat} {v : Value} {ps : List (List UInt8)}
theorem PartsV.below (h : PartsV w B v ps) (hb : Below B w w') : PartsV w' B v ps := by
  obtain ⟨us, h1, h2, h3⟩ := h
  exact ⟨us, h1, h2.below hb, h3.below hb⟩
theorem PartsV.more (h : PartsV w B v ps) (hb : B ≤ B') : PartsV w B' v ps := by
  obtain ⟨us, h1, h2, h3⟩ := h
  exact ⟨us, h1, h2.more hb, h3.more hb⟩
theorem PartsV.on (h : PartsV w w.heap.size v ps) (hb : Below w.heap.size w w') : PartsV w' w'.heap.size v ps := (h.below hb).more hb.size
theorem PartsV.nil (w : World) (B : Nat) : PartsV w B (.slice none 0 0) [] := ⟨[], rfl, Sl.nil w B 1, rfl, fun _ _ _ h => by simp at h⟩
theorem OwnParts.on {base : Nat} (h : OwnParts w base v ps) (hb : Below w.heap.size w w') : OwnParts w' base v ps := by
  obtain ⟨us, h1, h2, h3⟩ := h
  exact ⟨us, h1, own_on h2 hb, fun k u p hu hp => own_on (h3 k u p hu hp) hb⟩
theorem OwnParts.low {base base' : Nat} (h : OwnParts w base v ps) (hb : base' ≤ base) : OwnParts w base' v ps := by
  obtain ⟨us, h1, h2, h3⟩ := h
  exact ⟨us, h1, own_base h2 hb, fun k u p hu hp => own_base (h3 k u p hu hp) hb⟩
theorem OwnParts.reads {base : Nat} (h : OwnParts w base v ps) : PartsV w w.heap.size v ps := by
  obtain ⟨us, h1, h2, h3⟩ := h
  exact ⟨us, h1, Sl.of_own h2, h1, fun k u p hu hp => BS.of_own rfl (h3 k u p hu hp)⟩
/-- The row's own block; nothing of another element type lies there. -/
theorem own_type {base base' size size' n n' : Nat} {e e' : TypeId} {u : Value} {xs ys : List Value} (h : w.ownsRow base e size v n xs) (h' : w.ownsRow base' e' size' u n' ys) (hne : e ≠ e') : Apart v u := by
  intro g h1 h2
  rcases h.2 with ⟨rfl, _⟩ | ⟨g1, _, _, rfl, _, k1, _⟩
  · simp [Value.ownBlock] at h1
  rcases h'.2 with ⟨rfl, _⟩ | ⟨g2, _, _, rfl, _, k2, _⟩
  · simp [Value.ownBlock] at h2
  simp only [Value.ownBlock, Option.some.injEq] at h1 h2
  subst h1 h2
  rw [k1] at k2
  simp only [Option.some.injEq, Obj.cells.injEq] at k2
  exact hne k2.2.1
theorem far_type {base base' size size' n n' g c : Nat} {e e' : TypeId} {u : Value} {xs ys : List Value} (h : w.ownsRow base e size u n xs) (h' : w.ownsRow base' e' size' (.slice (some ⟨g, 0, none⟩) n' c) n' ys) (hne : e ≠ e') : ∀ g', u.ownBlock = some g' → some g' ≠ some g :=
  fun g' h1 h2 => own_type h h' hne g' h1 (by rw [h2]; rfl)
/-- The parts, a row of another type or of another block having grown. -/
theorem OwnParts.apart {base : Nat} {row : Option Nat} (h : OwnParts w base v ps) (hg : w.grownBy w' row) (h1 : ∀ g, v.ownBlock = some g → some g ≠ row) (h2 : ∀ (u : Value) (p : List UInt8), OB w base u p → ∀ g, u.ownBlock = some g → some g ≠ row) : OwnParts w' base v ps := by
  obtain ⟨us, k1, k2, k3⟩ := h
  exact ⟨us, k1, own_apart k2 hg h1, fun k u p hu hp => own_apart (k3 k u p hu hp) hg (h2 u p (k3 k u p hu hp))⟩
end

/-! ### Lists of messages -/
section
variable {α : Type} (f : α → Value → List Value) (m : Nat) (pf : α → List (List UInt8))
/-- A slice of structs with parts that reads as these. -/
def RowV (w : World) (B : Nat) (v : Value) (os : List α) : Prop :=
  ∃ vs, vs.length = os.length ∧ Sl w B m v os.length (flat2 f os vs) ∧ ∀ (k : Nat) o u, os[k]? = some o → vs[k]? = some u → PartsV w B u (pf o)
/-- The structs' slices are rows of the call's own, apart from each other. -/
def OwnMany (w : World) (base : Nat) (os : List α) (vs : List Value) : Prop :=
  vs.length = os.length ∧ (∀ (k : Nat) o u, os[k]? = some o → vs[k]? = some u → OwnParts w base u (pf o)) ∧ ∀ (j k : Nat) u x, j < k → vs[j]? = some u → vs[k]? = some x → Apart u x
def OwnRow (t : TypeId) (w : World) (base : Nat) (v : Value) (os : List α) : Prop :=
  ∃ vs, w.ownsRow base t m v os.length (flat2 f os vs) ∧ OwnMany pf w base os vs
variable {f m pf} {w w' : World} {B B' : Nat} {v : Value} {os : List α} {t : TypeId} {base base' : Nat} {vs : List Value}
theorem RowV.below (h : RowV f m pf w B v os) (hb : Below B w w') : RowV f m pf w' B v os := by
  obtain ⟨vs, h1, h2, h3⟩ := h
  exact ⟨vs, h1, h2.below hb, fun k o u ho hu => (h3 k o u ho hu).below hb⟩
theorem RowV.more (h : RowV f m pf w B v os) (hb : B ≤ B') : RowV f m pf w B' v os := by
  obtain ⟨vs, h1, h2, h3⟩ := h
  exact ⟨vs, h1, h2.more hb, fun k o u ho hu => (h3 k o u ho hu).more hb⟩
theorem RowV.on (h : RowV f m pf w w.heap.size v os) (hb : Below w.heap.size w w') : RowV f m pf w' w'.heap.size v os := (h.below hb).more hb.size
theorem RowV.nil (w : World) (B : Nat) : RowV f m pf w B (.slice none 0 0) [] := ⟨[], rfl, Sl.nil w B m, fun _ _ _ h => by simp at h⟩
theorem OwnMany.on (h : OwnMany pf w base os vs) (hb : Below w.heap.size w w') : OwnMany pf w' base os vs := ⟨h.1, fun k o u ho hu => (h.2.1 k o u ho hu).on hb, h.2.2⟩
theorem OwnMany.low (h : OwnMany pf w base os vs) (hb : base' ≤ base) : OwnMany pf w base' os vs := ⟨h.1, fun k o u ho hu => (h.2.1 k o u ho hu).low hb, h.2.2⟩
theorem OwnRow.on (h : OwnRow f m pf t w base v os) (hb : Below w.heap.size w w') : OwnRow f m pf t w' base v os := by
  obtain ⟨vs, h1, h2⟩ := h
  exact ⟨vs, own_on h1 hb, h2.on hb⟩
theorem OwnRow.low (h : OwnRow f m pf t w base v os) (hb : base' ≤ base) : OwnRow f m pf t w base' v os := by
  obtain ⟨vs, h1, h2⟩ := h
  exact ⟨vs, own_base h1 hb, h2.low hb⟩
theorem OwnRow.reads (h : OwnRow f m pf t w base v os) : RowV f m pf w w.heap.size v os := by
  obtain ⟨vs, h1, h2⟩ := h
  exact ⟨vs, h2.1, Sl.of_own h1, fun k o u ho hu => (h2.2.1 k o u ho hu).reads⟩
end
end Go.Proofs.Ytkpjinkkjbljkaa
