/- Slices in memory: a slice value that reads as a list of cells, a row of the call's own that grows by append, bytes and numbers; the laws of append, make, convert, index and reslice over them. No condition. -/
import Derived.Test.YthgpmedldnnhpaaBase
import Derived.Maps.AppendAt
import Derived.Laws.OwnMore
import Derived.Laws.BytesString
import Derived.Laws.IdiomStrings
import Derived.OwnWalk
import Derived.IntWalk
namespace Go.Proofs.Ythgpmedldnnhpaa
open Go.RowKit

/-- A slice's type, its element's type, the element's number of cells and of bytes. -/
structure El (P : Program) (t e : TypeId) (size bytes : Nat) : Prop where
  ht : P.underlying t = some (.slice e)
  ex : ∃ i z, P.info? e = some i ∧ i.zero = some z ∧ i.size = size ∧ i.bytes = bytes ∧ z.cells.size = size
  pos : 0 < size
  posb : 0 < bytes

theorem el_mk {P : Program} {t e : TypeId} {size bytes : Nat} {z : Value} (ht : P.underlying t = some (.slice e)) (hi : (P.info? e).map (fun i => (i.zero, i.size, i.bytes)) = some (some z, size, bytes)) (hz : z.cells.size = size) (hp : 0 < size) (hb : 0 < bytes) :
    El P t e size bytes := by
  obtain ⟨i, h1, h2, h3, h4⟩ := info_parts hi
  exact ⟨ht, ⟨i, z, h1, h2, h3, h4, hz⟩, hp, hb⟩

/-- The slice value v has n elements of so many cells; the cells read as cs and lie below block B. -/
def Sl (w : World) (B size : Nat) (v : Value) (n : Nat) (cs : List Value) : Prop :=
  ∃ A c, v = .slice A n c ∧ n ≤ c ∧ c ≤ maxLen ∧ cs.length = n * size ∧ (cs = [] ∨ ∃ b off, A = some ⟨b, off, none⟩ ∧ b < B ∧ ∀ (k : Nat) (u : Value), cs[k]? = some u → w.cell? ⟨b, off + k, none⟩ = some u)

section
variable {w w' : World} {B B' size n : Nat} {v : Value} {cs : List Value}
theorem Sl.keep (h : Sl w B size v n cs) (hk : ∀ b o, b < B → w'.cell? ⟨b, o, none⟩ = w.cell? ⟨b, o, none⟩) : Sl w' B size v n cs := by
  obtain ⟨A, c, rfl, h1, h2, h3, h4⟩ := h
  refine ⟨A, c, rfl, h1, h2, h3, ?_⟩
  rcases h4 with h4 | ⟨b, off, rfl, hb, hc⟩
  · exact .inl h4
  · exact .inr ⟨b, off, rfl, hb, fun k u hu => (hk _ _ hb).trans (hc k u hu)⟩
theorem Sl.below (h : Sl w B size v n cs) (hb : Below B w w') : Sl w' B size v n cs := h.keep fun _ _ hp => hb.cell (p := ⟨_, _, none⟩) hp
theorem Sl.more (h : Sl w B size v n cs) (hB : B ≤ B') : Sl w B' size v n cs := by
  obtain ⟨A, c, rfl, h1, h2, h3, h4⟩ := h
  refine ⟨A, c, rfl, h1, h2, h3, ?_⟩
  rcases h4 with h4 | ⟨b, off, rfl, hb, hc⟩
  · exact .inl h4
  · exact .inr ⟨b, off, rfl, Nat.lt_of_lt_of_le hb hB, hc⟩
/-- Into a later world, nothing that was there having been changed. -/
theorem Sl.on (h : Sl w w.heap.size size v n cs) (hb : Below w.heap.size w w') : Sl w' w'.heap.size size v n cs := (h.below hb).more hb.size
theorem Sl.len (h : Sl w B size v n cs) : cs.length = n * size := by obtain ⟨A, c, rfl, h1, h2, h3, h4⟩ := h; exact h3
theorem Sl.nil (w : World) (B size : Nat) : Sl w B size (.slice none 0 0) 0 [] := ⟨none, 0, rfl, Nat.le_refl _, Nat.zero_le _, by simp, .inl rfl⟩
theorem Sl.of_own {base : Nat} {e : TypeId} (h : w.ownsRow base e size v n cs) : Sl w w.heap.size size v n cs := by
  obtain ⟨h1, h2⟩ := h
  rcases h2 with ⟨rfl, rfl⟩ | ⟨g, cap, cur, rfl, hb, hh, hnc, hcm, hcs, ht⟩
  · exact ⟨none, 0, rfl, Nat.le_refl _, Nat.zero_le _, h1, .inl (List.eq_nil_of_length_eq_zero (by simpa using h1))⟩
  · refine ⟨_, cap, rfl, hnc, hcm, h1, .inr ⟨g, 0, rfl, ?_, fun k u hu => ?_⟩⟩
    · rcases Nat.lt_or_ge g w.heap.size with h | h
      · exact h
      · rw [Array.getElem?_eq_none h] at hh; cases hh
    · have hown : w.ownsRow base e size (.slice (some ⟨g, 0, none⟩) n cap) n cs := ⟨h1, .inr ⟨g, cap, cur, rfl, hb, hh, hnc, hcm, hcs, ht⟩⟩
      have := hown.cells (g := g) rfl k u hu
      rw [Nat.zero_add]
      have e : (⟨g, 0, none⟩ : Addr).add k = ⟨g, k, none⟩ := by unfold Addr.add; split <;> simp_all
      rwa [e] at this
/-- What a slice literal lays. -/
theorem Sl.lit (w : World) (cs : Array Value) (t : TypeId) (n : Nat) (hs : cs.size = n * size) (hm : n ≤ maxLen) : Sl (w.alloc (.cells cs t)) (w.heap.size + 1) size (.slice (some ⟨w.heap.size, 0, none⟩) n n) n cs.toList := by
  refine ⟨_, n, rfl, Nat.le_refl _, hm, by simpa using hs, .inr ⟨w.heap.size, 0, rfl, by omega, fun k u hu => ?_⟩⟩
  rw [cell_of_row _ _ _ cs t (0, 0) (heap_alloc_new w _)]
  simpa using hu
/-- Where there is a cell, the address is one, and all cells lie behind it. -/
theorem Sl.cells {A : Option Addr} {c : Nat} (h : Sl w B size (.slice A n c) n cs) {j : Nat} {u : Value} (hj : cs[j]? = some u) : ∃ b off, A = some ⟨b, off, none⟩ ∧ b < B ∧ ∀ (k : Nat) (u : Value), cs[k]? = some u → w.cell? ⟨b, off + k, none⟩ = some u := by
  obtain ⟨A', c', e, h1, h2, h3, h4⟩ := h
  injection e with e1 e2 e3
  subst e1
  rcases h4 with rfl | h4
  · simp at hj
  · exact h4
theorem Sl.cap {A : Option Addr} {c : Nat} (h : Sl w B size (.slice A n c) n cs) : n ≤ c ∧ c ≤ maxLen := by
  obtain ⟨A', c', e, h1, h2, h3, h4⟩ := h
  injection e with e1 e2 e3
  subst e3
  exact ⟨h1, h2⟩
/-- The cell of element number k. -/
theorem Sl.at_ (h : Sl w B size v n cs) {k : Nat} {u : Value} (hk : cs[k]? = some u) : ∃ b off c, v = .slice (some ⟨b, off, none⟩) n c ∧ b < B ∧ n ≤ c ∧ c ≤ maxLen ∧ w.cell? ⟨b, off + k, none⟩ = some u := by
  obtain ⟨A, c, rfl, h1, h2, h3, h4⟩ := h
  rcases h4 with rfl | ⟨b, off, rfl, hb, hc⟩
  · simp at hk
  · exact ⟨b, off, c, rfl, hb, h1, h2, hc k u hk⟩
end

/-! ### append onto a row of the call's own -/
section
variable {P : Program} (w : World)

theorem run_append_sl {t e : TypeId} {size bytes : Nat} (E : El P t e size bytes) (ty : TypeId) {base B n m : Nat} {v x : Value} {xs news : List Value} (hown : w.ownsRow base e size v n xs) (hx : Sl w B size x m news)
    (h1 : ∀ u ∈ news, u.oneCell' = true) (hbytes : (n + m) * bytes ≤ 140737488355328) (hbase : base ≤ w.heap.size) :
    ∃ v' w', (Builtin.append_ #[t, t] ty #[v, x]).run P w = .ok v' w' ∧ w'.ownsRow base e size v' (n + m) (xs ++ news) ∧ w.grownBy w' v.ownBlock ∧
      (v' = .slice none 0 0 ↔ v = .slice none 0 0 ∧ m = 0) ∧ (v'.ownBlock = v.ownBlock ∨ v'.ownBlock = some w.heap.size) := by
  obtain ⟨ht, ⟨i, z, hi, hz, hsz, hby, hzs⟩, hpos, hposb⟩ := E
  have h63 : n + m ≤ maxLen := by
    have : n + m ≤ (n + m) * bytes := Nat.le_mul_of_pos_right _ hposb
    simp only [maxLen]
    omega
  obtain ⟨A, c, rfl, hmc, _, hl, hr⟩ := hx
  rcases A with _ | ad
  · have hn : news = [] := by
      rcases hr with hr | ⟨b, off, h, _⟩
      · exact hr
      · cases h
    subst hn
    have hm : m = 0 := by
      rcases Nat.eq_zero_or_pos m with h | h
      · exact h
      · have := Nat.mul_pos h hpos; simp at hl; omega
    subst hm
    refine ⟨v, w, ?_, by simpa using hown, ⟨rfl, rfl, rfl, Nat.le_refl _, fun _ _ _ => rfl⟩, by simp, .inl rfl⟩
    rcases hown.2 with ⟨rfl, rfl⟩ | ⟨g, cap, cur, rfl, _, _, hnc, _⟩
    · simp [Builtin.append_, run_underlying ht, sizeOf, typeInfo, hi, Builtin.lenOf, Builtin.firstCells]
    · simp [Builtin.append_, run_underlying ht, sizeOf, typeInfo, hi, Builtin.lenOf, Builtin.firstCells, hnc, storeCells]
  · have hcells : ∀ j u, news[j]? = some u → w.cell? (ad.add j) = some u := by
      intro j u hu
      rcases hr with rfl | ⟨b, off, h, _, hc⟩
      · simp at hu
      · injection h with h
        subst h
        have e : (⟨b, off, none⟩ : Addr).add j = ⟨b, off + j, none⟩ := by unfold Addr.add; split <;> simp_all
        rw [e]
        exact hc j u hu
    exact run_append_own_at (P := P) w base t ty e i z size bytes ht hi hz hsz hby hzs hpos v n xs hown ad m c news hl hcells h1 h63 hbytes hbase

/-- At the operation, for the walk. -/
theorem app_sl {ops : Array Oper} {rest : List Oper} {o : Oper} {a : Act} {Q : Exit → Act → World → Prop} {t e : TypeId} {size bytes : Nat} (E : El P t e size bytes) (hgd : o.guard = none) (s y : Operand)
    (ho : o.op = .call { callee := .builtin .append, args := #[s, y], argTypes := #[t, t] }) {base B n m : Nat} {v x : Value} {xs news : List Value} (hs : a.eval s = v) (hown : w.ownsRow base e size v n xs) (hy : a.eval y = x) (hx : Sl w B size x m news)
    (h1 : ∀ u ∈ news, u.oneCell' = true) (hbytes : (n + m) * bytes ≤ 140737488355328) (hbase : base ≤ w.heap.size)
    (h : ∀ v' w', w'.ownsRow base e size v' (n + m) (xs ++ news) → w.grownBy w' v.ownBlock → (v' = .slice none 0 0 ↔ v = .slice none 0 0 ∧ m = 0) → (v'.ownBlock = v.ownBlock ∨ v'.ownBlock = some w.heap.size) → wpList P ops Q rest (a.put o.dst v') w') :
    wpList P ops Q (o :: rest) a w := by
  refine wpList_plain hgd fun K hK => ?_
  obtain ⟨v', w', hr, h2, h3, h4, h5⟩ := run_append_sl (P := P) w E o.type hown hx h1 hbytes hbase
  unfold Oper.wp execOp
  simp only [ho, resolve, invoke, builtin, Sem.run_bind, Sem.run_pure, Result.andThen_ok, List.map_toArray, List.map_cons, List.map_nil, hs, hy, hr]
  exact hK _ _ (h v' w' h2 h3 h4 h5)
end

/-- What append leaves, below block B: as it was, if the row lies from B on. -/
theorem below_app {B base : Nat} {a w w' : World} {v : Value} {e : TypeId} {size n : Nat} {xs : List Value} (h : Below B a w) (hown : w.ownsRow base e size v n xs) (hg : w.grownBy w' v.ownBlock) (hB : B ≤ base) (hbase : base ≤ w.heap.size) : Below B a w' :=
  h.grown hg (Nat.le_trans hB hbase) fun k hk => Nat.le_trans hB (hown.lt k hk).1

/-! ### Bytes -/
/-- The cells of bytes. -/
def bys (l : List UInt8) : List Value := l.map fun b => .int .u8 (b.toNat : Int)
theorem bys_length (l : List UInt8) : (bys l).length = l.length := by simp [bys]
theorem bys_append (l k : List UInt8) : bys (l ++ k) = bys l ++ bys k := by simp [bys]
theorem bys_at {l : List UInt8} {k : Nat} (h : k < l.length) : (bys l)[k]? = some (.int .u8 (l[k].toNat : Int)) := by simp [bys, h]
theorem bys_one (l : List UInt8) : ∀ u ∈ bys l, u.oneCell' = true := by
  intro u hu
  simp only [bys, List.mem_map] at hu
  obtain ⟨b, _, rfl⟩ := hu
  rfl
theorem bys_take (l : List UInt8) (k : Nat) : bys (l.take k) = (bys l).take k := by simp [bys, List.map_take]
theorem bys_drop (l : List UInt8) (k : Nat) : bys (l.drop k) = (bys l).drop k := by simp [bys, List.map_drop]

/-- A slice of bytes that reads as l. -/
def BS (w : World) (B : Nat) (v : Value) (l : List UInt8) : Prop := Sl w B 1 v l.length (bys l)
section
variable {w w' : World} {B B' : Nat} {v : Value} {l : List UInt8}
theorem BS.below (h : BS w B v l) (hb : Below B w w') : BS w' B v l := Sl.below h hb
theorem BS.more (h : BS w B v l) (hB : B ≤ B') : BS w B' v l := Sl.more h hB
theorem BS.on (h : BS w w.heap.size v l) (hb : Below w.heap.size w w') : BS w' w'.heap.size v l := Sl.on h hb
theorem BS.nil (w : World) (B : Nat) : BS w B (.slice none 0 0) [] := Sl.nil w B 1
theorem BS.of_own {base : Nat} {e : TypeId} {n : Nat} (hn : n = l.length) (h : w.ownsRow base e 1 v n (bys l)) : BS w w.heap.size v l := by subst hn; exact Sl.of_own h
/-- 'string(b)'. -/
theorem BS.conv {P : Program} {t e ts : TypeId} (h : BS w B v l) (ht : P.underlying t = some (.slice e)) (he : P.underlying e = some (.int .u8)) (hd : P.underlying ts = some .string) :
    (convert t ts v).run P w = .ok (.string ⟨l.toArray⟩) w := by
  obtain ⟨A, c, rfl, h1, h2, h3, h4⟩ := h
  rcases h4 with h4 | ⟨b, off, rfl, hb, hc⟩
  · have hl : l = [] := by simpa [bys] using h4
    subst hl
    rw [run_convert_bytes_string w t ts e _ _ c ht he hd]
    rcases A with _ | a
    · simp [Conv.bytesToString]; rfl
    · have := run_convert_bytes_back (P := P) w t ts e a c [] ht he hd (fun j hj => by simp at hj)
      rw [run_convert_bytes_string w t ts e _ _ c ht he hd] at this
      simpa using this
  · refine run_convert_bytes_back (P := P) w t ts e _ c l ht he hd (fun j hj => ?_)
    have e1 : (⟨b, off, none⟩ : Addr).add j = ⟨b, off + j, none⟩ := by unfold Addr.add; split <;> simp_all
    rw [e1]
    exact hc j _ (bys_at hj)
end

/-! ### Numbers of 64 bits -/
def nums (l : List Nat) : List Value := l.map fun (x : Nat) => .int .u64 (x : Int)
theorem nums_length (l : List Nat) : (nums l).length = l.length := by simp [nums]
theorem nums_append (l k : List Nat) : nums (l ++ k) = nums l ++ nums k := by simp [nums]
theorem nums_at {l : List Nat} {k : Nat} (h : k < l.length) : (nums l)[k]? = some (.int .u64 (l[k] : Int)) := by simp [nums, h]
theorem nums_one (l : List Nat) : ∀ u ∈ nums l, u.oneCell' = true := by
  intro u hu
  simp only [nums, List.mem_map] at hu
  obtain ⟨b, _, rfl⟩ := hu
  rfl
/-! ### Numbers of type int -/
def ints (l : List Int) : List Value := l.map fun x => .int .i64 x
theorem ints_length (l : List Int) : (ints l).length = l.length := by simp [ints]
theorem ints_append (l k : List Int) : ints (l ++ k) = ints l ++ ints k := by simp [ints]
theorem ints_at' {l : List Int} {k : Nat} (h : k < l.length) : (ints l)[k]? = some (.int .i64 l[k]) := by simp [ints, h]
theorem ints_one (l : List Int) : ∀ u ∈ ints l, u.oneCell' = true := by
  intro u hu
  simp only [ints, List.mem_map] at hu
  obtain ⟨b, _, rfl⟩ := hu
  rfl
end Go.Proofs.Ythgpmedldnnhpaa
