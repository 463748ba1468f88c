/- The state in memory that transport's functions return, and what Again does; lists in blocks of which something is said. No condition. -/
import Derived.Test.YtkpjinkkjbljkaaTqP
import Derived.Test.YtkpjinkkjbljkaaTq5
import Derived.Test.YtkpjinkkjbljkaaUp
namespace Go.Proofs.Ytkpjinkkjbljkaa
open Go.RowKit

/-- A PDU with its addresses. -/
structure OutwS where
  src : Nat
  dst : Nat
  ttl : Int
  low : Low
abbrev Outw := OutwS × List UInt8
abbrev owF (p : Outw) (v : Value) : List Value := [.int .u16 (p.1.src : Int), .int .u16 (p.1.dst : Int), .int .i64 p.1.ttl, .bool p.1.low.ctl, .bool p.1.low.seg, .bool p.1.low.app, .int .i64 p.1.low.zero, .int .i64 p.1.low.idx, .int .i64 p.1.low.last, .int .i64 p.1.low.op, .int .u32 (p.1.low.blk : Int), .bool p.1.low.fr, v]
theorem owF_len (p : Outw) (v : Value) : (owF p v).length = 13 := rfl
theorem owF_one (p : Outw) {v : Value} (h : v.oneCell' = true) : ∀ u ∈ owF p v, u.oneCell' = true := by
  intro u hu
  simp only [owF, List.mem_cons, List.not_mem_nil, or_false] at hu
  rcases hu with rfl | rfl | rfl | rfl | rfl | rfl | rfl | rfl | rfl | rfl | rfl | rfl | rfl <;> first | rfl | exact h
theorem elOw : El Try.prog 63 65 13 88 := el_mk Try.underlying63 (z := .agg #[.int .u16 0, .int .u16 0, .int .i64 0, .bool false, .bool false, .bool false, .int .i64 0, .int .i64 0, .int .i64 0, .int .i64 0, .int .u32 0, .bool false, .slice none 0 0]) (by kernel_rfl) rfl (by omega) (by omega)
abbrev OutwsV (w : World) (B : Nat) (v : Value) (ps : List Outw) : Prop := ManyV owF 13 (fun p => p.2) w B v ps
abbrev OutwsV2 (w : World) (b0 B : Nat) (v : Value) (ps : List Outw) : Prop := ManyV2 owF 13 (fun p => p.2) w b0 B v ps
abbrev OwnOutw (w : World) (base : Nat) (v : Value) (ps : List Outw) : Prop := OwnM owF 13 (fun p => p.2) 65 w base v ps

/-! ### Acks -/
def dueB (now : Int) (x : InS) : Bool := decide (1 ≤ x.due) && decide (x.due ≤ max 1 now)
def ackI (now : Int) (x : InS) : InS := if dueB now x = true then { x with due := 0 } else x
def ackO (x : InS) : Outw := (⟨x.dst, x.src, if x.ttl = 0 then 0 else 127, ⟨true, false, false, ((x.zero % 8192 : Nat) : Int), 0, 0, 0, x.blk, false⟩⟩, [])
def acksI (is : List InS) (now : Int) : List InS := is.map (ackI now)
def acksO (is : List InS) (now : Int) : List Outw := (is.filter (dueB now)).map ackO
theorem ackI_parts (now : Int) (x : InS) : (ackI now x).parts = x.parts := by unfold ackI; split <;> rfl
/-- The state in the middle of the walk. -/
def acksAt (is : List InS) (now : Int) (k : Nat) : List InS := (is.take k).map (ackI now) ++ is.drop k
theorem acksAt_zero (is : List InS) (now : Int) : acksAt is now 0 = is := rfl
theorem acksAt_all (is : List InS) (now : Int) : acksAt is now is.length = acksI is now := by simp [acksAt, acksI]
theorem acksAt_len (is : List InS) (now : Int) {k : Nat} (hk : k ≤ is.length) : (acksAt is now k).length = is.length := by simp [acksAt]; omega
theorem acksAt_at {is : List InS} {now : Int} {k : Nat} {x : InS} (h : is[k]? = some x) : (acksAt is now k)[k]? = some x := by
  have hk := (List.getElem?_eq_some_iff.1 h).1
  unfold acksAt
  rw [List.getElem?_append_right (by simp; omega)]
  simp [Nat.min_eq_left (Nat.le_of_lt hk), h]
theorem acksAt_succ {is : List InS} {now : Int} {k : Nat} {x : InS} (h : is[k]? = some x) : (acksAt is now k).set k (ackI now x) = acksAt is now (k + 1) := by
  have hk := (List.getElem?_eq_some_iff.1 h).1
  unfold acksAt
  have e1 : is.take (k + 1) = is.take k ++ [x] := by rw [List.take_add_one, h]; rfl
  have e2 : is.drop k = x :: is.drop (k + 1) := by
    rw [List.drop_eq_getElem_cons hk]
    congr 1
    exact (List.getElem?_eq_some_iff.1 h).2
  rw [e1, e2, List.map_append, List.append_assoc, List.set_append_right _ _ (by simp; omega)]
  simp [Nat.min_eq_left (Nat.le_of_lt hk)]
theorem acksAt_same {is : List InS} {now : Int} {k : Nat} {x : InS} (h : is[k]? = some x) (hd : dueB now x = false) : acksAt is now (k + 1) = acksAt is now k := by
  rw [← acksAt_succ h, show ackI now x = x by unfold ackI; rw [hd]; rfl]
  exact list_set_self (acksAt_at h)
theorem acksO_yes {is : List InS} {now : Int} {k : Nat} {x : InS} (h : is[k]? = some x) (hd : dueB now x = true) : acksO (is.take (k + 1)) now = acksO (is.take k) now ++ [ackO x] := by
  unfold acksO
  rw [List.take_add_one, h, Option.toList_some, List.filter_append, List.map_append]
  simp [hd]
theorem acksO_no {is : List InS} {now : Int} {k : Nat} {x : InS} (h : is[k]? = some x) (hd : dueB now x = false) : acksO (is.take (k + 1)) now = acksO (is.take k) now := by
  unfold acksO
  rw [List.take_add_one, h, Option.toList_some, List.filter_append, List.map_append]
  simp [hd]
theorem acksO_len (is : List InS) (now : Int) : (acksO is now).length ≤ is.length := by
  unfold acksO
  rw [List.length_map]
  exact List.length_filter_le _ _

/-! ### The cloned state in memory -/
structure KSt (os : List OutS) (is : List InS) (w wr : World) (base tb rb g h N M : Nat) (xs ys : List Value) : Prop where
  bt : Box wr tb [.slice (some ⟨g, 0, none⟩) N N, .slice (some ⟨h, 0, none⟩) M M]
  br : Box wr rb [.slice none 0 0, .slice none 0 0]
  og : wr.ownsRow base 75 10 (.slice (some ⟨g, 0, none⟩) N N) N (flat2 outCs os xs)
  om : OwnMany OutS.parts wr base os xs
  ih : wr.ownsRow base 95 11 (.slice (some ⟨h, 0, none⟩) M M) M (flat2 inCs is ys)
  im : OwnMany InS.parts wr base is ys
  cr : Cross xs ys
  be : Below w.heap.size w wr
  lt : tb < base ∧ rb < base ∧ w.heap.size ≤ tb ∧ w.heap.size ≤ rb ∧ tb ≠ rb ∧ base ≤ wr.heap.size
  len : os.length = N ∧ is.length = M
section
variable {os os' : List OutS} {is is' : List InS} {w wr w' : World} {base tb rb g h N M : Nat} {xs ys : List Value}
theorem OwnMany.like {α : Type} {pf : α → List (List UInt8)} {l l' : List α} {vs : List Value} {W : World} {B : Nat} (hm : OwnMany pf W B l vs) (hl : l'.map pf = l.map pf) : OwnMany pf W B l' vs := by
  have hlen : l'.length = l.length := by simpa using congrArg List.length hl
  refine ⟨by rw [hm.1, hlen], fun k o u ho hu => ?_, hm.2.2⟩
  have h1 : (l'.map pf)[k]? = some (pf o) := by simp [ho]
  rw [hl, List.getElem?_map] at h1
  rcases hq : l[k]? with _ | q
  · rw [hq] at h1; cases h1
  · rw [hq] at h1
    simp only [Option.map_some, Option.some.injEq] at h1
    rw [← h1]
    exact hm.2.1 k q u hq hu
theorem KSt.on (k : KSt os is w wr base tb rb g h N M xs ys) (hb : Below wr.heap.size wr w') : KSt os is w w' base tb rb g h N M xs ys :=
  ⟨k.bt.on hb, k.br.on hb, own_on k.og hb, k.om.on hb, own_on k.ih hb, k.im.on hb, k.cr, bthen k.be hb, ⟨k.lt.1, k.lt.2.1, k.lt.2.2.1, k.lt.2.2.2.1, k.lt.2.2.2.2.1, Nat.le_trans k.lt.2.2.2.2.2 hb.size⟩, k.len⟩
theorem OwnMany.grown_ty {α : Type} {pf : α → List (List UInt8)} {l : List α} {vs : List Value} {W W' : World} {B base' size' n' : Nat} {e' : TypeId} {x : Value} {zs : List Value} (hm : OwnMany pf W B l vs) (h' : W.ownsRow base' e' size' x n' zs) (h1 : 23 ≠ e') (h2 : 5 ≠ e') (hg : W.grownBy W' x.ownBlock) : OwnMany pf W' B l vs := hm.grown h' h1 h2 hg
/-- A row of another type has grown. -/
theorem KSt.grown (k : KSt os is w wr base tb rb g h N M xs ys) {size' n' base' : Nat} {e' : TypeId} {x : Value} {zs : List Value} (h' : wr.ownsRow base' e' size' x n' zs) (hbb : base ≤ base') (hbw : base' ≤ wr.heap.size) (h1 : 75 ≠ e') (h2 : 95 ≠ e') (h3 : 23 ≠ e') (h4 : 5 ≠ e') (hg : wr.grownBy w' x.ownBlock) : KSt os is w w' base tb rb g h N M xs ys := by
  obtain ⟨l1, l2, l3, l4, l5, l6⟩ := k.lt
  have hne : ∀ b, b < base → some b ≠ x.ownBlock := fun b hb he => by
    have := (h'.lt b he.symm).1
    omega
  exact ⟨k.bt.grown hg (hne _ l1), k.br.grown hg (hne _ l2), own_grown_type k.og h' h1 hg, k.om.grown h' h3 h4 hg, own_grown_type k.ih h' h2 hg, k.im.grown h' h3 h4 hg, k.cr, below_app k.be h' hg (by omega) hbw, ⟨l1, l2, l3, l4, l5, Nat.le_trans l6 hg.size⟩, k.len⟩
/-- One cell of a message is written. -/
theorem KSt.setIn (k : KSt os is w wr base tb rb g h N M xs ys) {i j : Nat} {x x' : InS} {v u : Value} (hx : is[i]? = some x) (hv : ys[i]? = some v) (hj : j < 11) (hset : (inCs x v).set j u = inCs x' v) (hp : x'.parts = x.parts) :
    KSt os (is.set i x') w (wr.setCell ⟨h, i * 11 + j, none⟩ u) base tb rb g h N M xs ys := by
  obtain ⟨l1, l2, l3, l4, l5, l6⟩ := k.lt
  have hh := (k.ih.lt h rfl).1
  have h2 := (k.ih.stored (i * 11 + j) u).1
  rw [flat2_set inCs_len is ys i x x' v v j u k.im.1 hx hv hj hset, list_set_self hv] at h2
  refine ⟨k.bt.far (by show tb ≠ h; omega) _, k.br.far (by show rb ≠ h; omega) _, own_apart k.og (k.ih.stored _ _).2 (far_type k.og k.ih (by decide)), k.om.store k.ih (by decide) (by decide) _ _, h2, (k.im.store k.ih (by decide) (by decide) _ _).like ?_, k.cr, k.be.setCell (by show w.heap.size ≤ h; omega) _, ⟨l1, l2, l3, l4, l5, by simpa using l6⟩, ⟨k.len.1, by rw [List.length_set]; exact k.len.2⟩⟩
  rw [List.map_set, hp]
  exact list_set_self (by rw [List.getElem?_map, hx]; rfl)
theorem KSt.setOut (k : KSt os is w wr base tb rb g h N M xs ys) {i j : Nat} {x x' : OutS} {v u : Value} (hx : os[i]? = some x) (hv : xs[i]? = some v) (hj : j < 10) (hset : (outCs x v).set j u = outCs x' v) (hp : x'.parts = x.parts) :
    KSt (os.set i x') is w (wr.setCell ⟨g, i * 10 + j, none⟩ u) base tb rb g h N M xs ys := by
  obtain ⟨l1, l2, l3, l4, l5, l6⟩ := k.lt
  have hh := (k.og.lt g rfl).1
  have h2 := (k.og.stored (i * 10 + j) u).1
  rw [flat2_set outCs_len os xs i x x' v v j u k.om.1 hx hv hj hset, list_set_self hv] at h2
  refine ⟨k.bt.far (by show tb ≠ g; omega) _, k.br.far (by show rb ≠ g; omega) _, h2, (k.om.store k.og (by decide) (by decide) _ _).like ?_, own_apart k.ih (k.og.stored _ _).2 (far_type k.ih k.og (by decide)), k.im.store k.og (by decide) (by decide) _ _, k.cr, k.be.setCell (by show w.heap.size ≤ g; omega) _, ⟨l1, l2, l3, l4, l5, by simpa using l6⟩, ⟨by rw [List.length_set]; exact k.len.1, k.len.2⟩⟩
  rw [List.map_set, hp]
  exact list_set_self (by rw [List.getElem?_map, hx]; rfl)
theorem KSt.outV (k : KSt os is w wr base tb rb g h N M xs ys) : RowV outCs 10 OutS.parts wr wr.heap.size (.slice (some ⟨g, 0, none⟩) N N) os := OwnRow.reads ⟨xs, by rw [k.len.1]; exact k.og, k.om⟩
theorem KSt.inV (k : KSt os is w wr base tb rb g h N M xs ys) : RowV inCs 11 InS.parts wr wr.heap.size (.slice (some ⟨h, 0, none⟩) M M) is := OwnRow.reads ⟨ys, by rw [k.len.2]; exact k.ih, k.im⟩
/-- The cells of message number i. -/
theorem KSt.inCell (k : KSt os is w wr base tb rb g h N M xs ys) {i j : Nat} {x : InS} {v u : Value} (hx : is[i]? = some x) (hv : ys[i]? = some v) (hu : (inCs x v)[j]? = some u) : wr.cell? ⟨h, i * 11 + j, none⟩ = some u := by
  have hj : j < 11 := (List.getElem?_eq_some_iff.1 hu).1
  exact own_cell k.ih ((flat2_at inCs_len is ys i x v j k.im.1 hx hv hj).trans hu)
theorem KSt.outCell (k : KSt os is w wr base tb rb g h N M xs ys) {i j : Nat} {x : OutS} {v u : Value} (hx : os[i]? = some x) (hv : xs[i]? = some v) (hu : (outCs x v)[j]? = some u) : wr.cell? ⟨g, i * 10 + j, none⟩ = some u := by
  have hj : j < 10 := (List.getElem?_eq_some_iff.1 hu).1
  exact own_cell k.og ((flat2_at outCs_len os xs i x v j k.om.1 hx hv hj).trans hu)
theorem KSt.drew (k : KSt os is w wr base tb rb g h N M xs ys) : KSt os is w wr.drew base tb rb g h N M xs ys := k.on ((Below.refl _ _).drew)
/-- The result's box is filled. -/
theorem KSt.ret (k : KSt os is w wr base tb rb g h N M xs ys) : Box (wr.setCells rb 0 [.slice (some ⟨g, 0, none⟩) N N, .slice (some ⟨h, 0, none⟩) M M]) rb [.slice (some ⟨g, 0, none⟩) N N, .slice (some ⟨h, 0, none⟩) M M] ∧
    Below w.heap.size w (wr.setCells rb 0 [.slice (some ⟨g, 0, none⟩) N N, .slice (some ⟨h, 0, none⟩) M M]) ∧
    RowV2 outCs 10 OutS.parts (wr.setCells rb 0 [.slice (some ⟨g, 0, none⟩) N N, .slice (some ⟨h, 0, none⟩) M M]) w.heap.size (wr.setCells rb 0 [.slice (some ⟨g, 0, none⟩) N N, .slice (some ⟨h, 0, none⟩) M M]).heap.size (.slice (some ⟨g, 0, none⟩) N N) os ∧
    RowV2 inCs 11 InS.parts (wr.setCells rb 0 [.slice (some ⟨g, 0, none⟩) N N, .slice (some ⟨h, 0, none⟩) M M]) w.heap.size (wr.setCells rb 0 [.slice (some ⟨g, 0, none⟩) N N, .slice (some ⟨h, 0, none⟩) M M]).heap.size (.slice (some ⟨h, 0, none⟩) M M) is := by
  obtain ⟨l1, l2, l3, l4, l5, l6⟩ := k.lt
  have hb : Below rb wr (wr.setCells rb 0 [.slice (some ⟨g, 0, none⟩) N N, .slice (some ⟨h, 0, none⟩) M M]) := below_puts (Nat.le_refl _) 0 _ (Below.refl _ _)
  have f1 : OwnRow outCs 10 OutS.parts 75 wr base (.slice (some ⟨g, 0, none⟩) N N) os := ⟨xs, by rw [k.len.1]; exact k.og, k.om⟩
  have f2 : OwnRow inCs 11 InS.parts 95 wr base (.slice (some ⟨h, 0, none⟩) M M) is := ⟨ys, by rw [k.len.2]; exact k.ih, k.im⟩
  refine ⟨k.br.put _ rfl, below_puts l4 0 _ k.be, ?_, ?_⟩
  · exact (ownRow_far (ownRow_far f1 l2 0 _) l2 1 _).upto (by omega)
  · exact (ownRow_far (ownRow_far f2 l2 0 _) l2 1 _).upto (by omega)
end
/-- Behind the call of clone, its result stored. -/
theorem KSt.start {os : List OutS} {is : List InS} {w W w2 : World} {tb rb g h N M : Nat} {xs ys : List Value} {cs : List Value} (hN : os.length = N) (hM : is.length = M) (hA : Below w.heap.size w W) (ht : Box W tb cs) (hc : cs.length = 2) (hr : Box W rb [.slice none 0 0, .slice none 0 0]) (htr : tb ≠ rb) (h1 : w.heap.size ≤ tb) (h2 : w.heap.size ≤ rb) (hb : Below W.heap.size W w2)
    (og : w2.ownsRow W.heap.size 75 10 (.slice (some ⟨g, 0, none⟩) N N) N (flat2 outCs os xs)) (om : OwnMany OutS.parts w2 W.heap.size os xs)
    (ih : w2.ownsRow W.heap.size 95 11 (.slice (some ⟨h, 0, none⟩) M M) M (flat2 inCs is ys)) (im : OwnMany InS.parts w2 W.heap.size is ys) (cr : Cross xs ys) :
    KSt os is w (w2.setCells tb 0 [.slice (some ⟨g, 0, none⟩) N N, .slice (some ⟨h, 0, none⟩) M M]) W.heap.size tb rb g h N M xs ys := by
  have hlt := ht.lt
  refine ⟨(ht.on hb).put _ (by rw [hc]; rfl), (hr.on hb).puts_far (Ne.symm htr) 0 _, own_far (own_far og hlt 0 _) hlt 1 _, (om.far hlt 0 _).far hlt 1 _, own_far (own_far ih hlt 0 _) hlt 1 _, (im.far hlt 0 _).far hlt 1 _, cr, below_puts h1 0 _ (bthen hA hb), ⟨hlt, hr.lt, h1, h2, htr, by rw [size_puts]; exact hb.size⟩, ⟨hN, hM⟩⟩
/-- What Acks leaves. -/
def AcksPost (os : List OutS) (is : List InS) (now : Int) (w : World) (e : Ending) (w' : World) : Prop :=
  Below w.heap.size w w' ∧ ∃ v u x, e = .returned (.tuple #[.agg #[v, u], x]) ∧
    RowV2 outCs 10 OutS.parts w' w.heap.size w'.heap.size v os ∧ RowV2 inCs 11 InS.parts w' w.heap.size w'.heap.size u (acksI is now) ∧ OutwsV2 w' w.heap.size w'.heap.size x (acksO is now)
theorem res_tr2 {fn : Func} {i j : Tmp} (h : fn.results = #[.cell i 47, .tmp j]) (tmps : Array Value) (w : World) (b : Nat) (u v : Value) (hp : tmps.getD i undef = .pointer (some ⟨b, 0, none⟩)) (hs : Box w b [u, v]) :
    (results fn tmps).run Try.prog w = .ok (.tuple #[.agg #[u, v], tmps.getD j undef]) w := by
  have c0 := hs.cell (j := 0) rfl
  have c1 := hs.cell (j := 1) rfl
  rw [Array.getD_eq_getD_getElem?] at hp
  simp [results, h, hp, go_sem, c0, c1]

section
variable {α : Type} {pf : α → List (List UInt8)} {w : World} {base : Nat} {os : List α} {vs : List Value}
theorem OwnMany.erase (h : OwnMany pf w base os vs) (i : Nat) : OwnMany pf w base (os.eraseIdx i) (vs.eraseIdx i) := by
  obtain ⟨h1, h2, h3⟩ := h
  refine ⟨by simp [List.length_eraseIdx, h1], fun k o u ho hu => ?_, fun j k u x hjk hu hx => ?_⟩
  · rw [List.getElem?_eraseIdx] at ho hu
    by_cases hk : k < i
    · rw [if_pos hk] at ho hu
      exact h2 k o u ho hu
    · rw [if_neg hk] at ho hu
      exact h2 _ o u ho hu
  · rw [List.getElem?_eraseIdx] at hu hx
    by_cases hj : j < i
    · rw [if_pos hj] at hu
      by_cases hk : k < i
      · rw [if_pos hk] at hx
        exact h3 j k u x hjk hu hx
      · rw [if_neg hk] at hx
        exact h3 j (k + 1) u x (by omega) hu hx
    · rw [if_neg hj] at hu
      rw [if_neg (show ¬ k < i by omega)] at hx
      exact h3 (j + 1) (k + 1) u x (by omega) hu hx
end
theorem flat2_erase {α β : Type} {f : α → β → List Value} {m : Nat} (hf : ∀ o v, (f o v).length = m) (os : List α) (vs : List β) (hl : vs.length = os.length) {i : Nat} (hi : i < os.length) : (flat2 f os vs).take (i * m) ++ (flat2 f os vs).drop ((i + 1) * m) = flat2 f (os.eraseIdx i) (vs.eraseIdx i) := by
  rw [flat2_take hf os vs i hl (by omega), flat2_drop hf os vs (i + 1) hl (by omega), ← flat2_append _ _ _ _ (by rw [List.length_take, List.length_take, hl]), List.eraseIdx_eq_take_drop_succ, List.eraseIdx_eq_take_drop_succ]

theorem quiet_ta {P : Program} {f : FuncId} {args : Array Value} {w : World} {n : Nat} {v : Value}
    (h : Calls P f args (w.drewN n) fun e w' => e = .returned v ∧ w.drewN n = w') : Calls P f args (w.drewN n) fun e w'' => e = .returned v ∧ ∃ m, w'' = w.drewN m :=
  h.mono fun _ _ ⟨he, hm⟩ => ⟨he, n, hm.symm⟩
/-- The state that is returned: the variable t, the result's box. -/
structure RetSt (os : List OutS) (is : List InS) (w wr : World) (base tb rb : Nat) (vO vI : Value) : Prop where
  bt : Box wr tb [vO, vI]
  br : Box wr rb [.slice none 0 0, .slice none 0 0]
  ov : OwnRow outCs 10 OutS.parts 75 wr base vO os
  iv : OwnRow inCs 11 InS.parts 95 wr base vI is
  be : Below w.heap.size w wr
  lt : tb < base ∧ rb < base ∧ w.heap.size ≤ tb ∧ w.heap.size ≤ rb ∧ tb ≠ rb
section
variable {os : List OutS} {is : List InS} {w wr w' : World} {base tb rb g h N M : Nat} {xs ys : List Value} {vO vI : Value}
theorem KSt.toRet (k : KSt os is w wr base tb rb g h N M xs ys) : RetSt os is w wr base tb rb (.slice (some ⟨g, 0, none⟩) N N) (.slice (some ⟨h, 0, none⟩) M M) :=
  ⟨k.bt, k.br, ⟨xs, by rw [k.len.1]; exact k.og, k.om⟩, ⟨ys, by rw [k.len.2]; exact k.ih, k.im⟩, k.be, ⟨k.lt.1, k.lt.2.1, k.lt.2.2.1, k.lt.2.2.2.1, k.lt.2.2.2.2.1⟩⟩
theorem RetSt.ret (k : RetSt os is w wr base tb rb vO vI) : Box (wr.setCells rb 0 [vO, vI]) rb [vO, vI] ∧ Below w.heap.size w (wr.setCells rb 0 [vO, vI]) ∧
    RowV2 outCs 10 OutS.parts (wr.setCells rb 0 [vO, vI]) w.heap.size (wr.setCells rb 0 [vO, vI]).heap.size vO os ∧
    RowV2 inCs 11 InS.parts (wr.setCells rb 0 [vO, vI]) w.heap.size (wr.setCells rb 0 [vO, vI]).heap.size vI is := by
  obtain ⟨l1, l2, l3, l4, l5⟩ := k.lt
  exact ⟨k.br.put _ rfl, below_puts l4 0 _ k.be, (ownRow_far (ownRow_far k.ov l2 0 _) l2 1 _).upto (by omega), (ownRow_far (ownRow_far k.iv l2 0 _) l2 1 _).upto (by omega)⟩
/-- Message number i is taken out of the row of messages that are sent. -/
theorem KSt.gone (k : KSt os is w wr base tb rb g h N M xs ys) {w9 : World} {i n9 : Nat} {v9 : Value} {row9 : List Value} (hi : i < os.length) (h9 : w9.ownsRow base 75 10 v9 n9 row9) (hn : n9 = N - 1) (hr9 : row9 = (flat2 outCs os xs).take (i * 10) ++ (flat2 outCs os xs).drop ((i + 1) * 10)) (hg : wr.grownBy w9 (some g)) :
    RetSt (os.eraseIdx i) is w (w9.setCell ⟨tb, 0, none⟩ v9) base tb rb v9 (.slice (some ⟨h, 0, none⟩) M M) := by
  obtain ⟨l1, l2, l3, l4, l5, l6⟩ := k.lt
  have hlt := k.og.lt g rfl
  have hne : ∀ b, b < base → (some b : Option Nat) ≠ some g := fun b hb e => by
    have : b = g := by simpa using e
    omega
  have hbel : Below w.heap.size w w9 := k.be.grown hg k.be.size fun q hq => by
    have : q = g := by simpa using hq.symm
    omega
  refine ⟨(k.bt.grown hg (hne _ l1)).set 0 v9, (k.br.grown hg (hne _ l2)).far (by show rb ≠ tb; omega) _, ⟨xs.eraseIdx i, ?_, OwnMany.far ((k.om.grown k.og (by decide) (by decide) hg).erase i) l1 0 _⟩, ⟨ys, ?_, OwnMany.far (k.im.grown k.og (by decide) (by decide) hg) l1 0 _⟩, hbel.setCell l3 _, ⟨l1, l2, l3, l4, l5⟩⟩
  · have e1 : (os.eraseIdx i).length = n9 := by rw [List.length_eraseIdx_of_lt hi, hn, k.len.1]
    rw [e1, ← flat2_erase outCs_len os xs k.om.1 hi, ← hr9]
    exact own_far h9 l1 0 _
  · rw [k.len.2]
    exact own_far (own_grown_type k.ih k.og (by decide) hg) l1 0 _
end

def u16s (l : List Nat) : List Value := l.map fun (x : Nat) => .int .u16 (x : Int)
theorem u16s_length (l : List Nat) : (u16s l).length = l.length := by simp [u16s]
theorem u16s_append (l k : List Nat) : u16s (l ++ k) = u16s l ++ u16s k := by simp [u16s]
theorem elU : El Try.prog 69 39 1 2 := el_mk Try.underlying69 (z := .int .u16 0) (by kernel_rfl) rfl (by omega) (by omega)

def mostT (o : OutS) : Int := if isNode o.dst = true then 6 else 3
def partW (o : OutS) (i : Nat) : Outw := (⟨o.src, o.dst, o.ttl, segL o i⟩, o.parts.getD i [])
/-- The segments that are sent again. -/
def segsW (o : OutS) (n : Nat) : List Outw := ((List.range n).filter fun i => decide (o.ackd / 2 ^ i % 2 = 0)).map (partW o)
theorem segsW_zero (o : OutS) : segsW o 0 = [] := rfl
theorem segsW_yes {o : OutS} {n : Nat} (h : o.ackd / 2 ^ n % 2 = 0) : segsW o (n + 1) = segsW o n ++ [partW o n] := by
  unfold segsW
  rw [List.range_succ, List.filter_append, List.map_append]
  simp [h]
theorem segsW_no {o : OutS} {n : Nat} (h : ¬ o.ackd / 2 ^ n % 2 = 0) : segsW o (n + 1) = segsW o n := by
  unfold segsW
  rw [List.range_succ, List.filter_append, List.map_append]
  simp [h]
theorem segsW_len (o : OutS) (n : Nat) : (segsW o n).length ≤ n := by
  unfold segsW
  rw [List.length_map]
  exact Nat.le_trans (List.length_filter_le _ _) (by simp)
def agO (now : Int) (o : OutS) : List OutS := if now < o.due then [o] else if o.tries < mostT o then [{ o with due := now + 20, tries := o.tries + 1 }] else []
def agA (now : Int) (o : OutS) : List Outw := if now < o.due then [] else if o.tries < mostT o then segsW o o.parts.length else []
def agL (now : Int) (o : OutS) : List Nat := if now < o.due then [] else if o.tries < mostT o then [] else if isNode o.dst = true then [o.dst] else []
def againO (os : List OutS) (now : Int) : List OutS := os.flatMap (agO now)
def againA (os : List OutS) (now : Int) : List Outw := os.flatMap (agA now)
def againL (os : List OutS) (now : Int) : List Nat := os.flatMap (agL now)
theorem flatMap_succ {α β : Type} (f : α → List β) {l : List α} {k : Nat} {x : α} (h : l[k]? = some x) : (l.take (k + 1)).flatMap f = (l.take k).flatMap f ++ f x := by
  rw [List.take_add_one, h, Option.toList_some, List.flatMap_append]
  simp
theorem flatMap_le {α β : Type} (f : α → List β) (m : Nat) : ∀ l : List α, (∀ x ∈ l, (f x).length ≤ m) → (l.flatMap f).length ≤ m * l.length
  | [], _ => by simp
  | x :: l, h => by
    have h1 := flatMap_le f m l fun y hy => h y (List.mem_cons_of_mem _ hy)
    have h2 := h x (List.mem_cons_self ..)
    rw [List.flatMap_cons, List.length_append, List.length_cons, Nat.mul_succ]
    omega
/-- What a message that is being sent bears. -/
def WfO (o : OutS) : Prop := o.ackd < 4294967296 ∧ o.parts.length ≤ 32 ∧ (∀ p ∈ o.parts, p.length ≤ 65536) ∧ 0 ≤ o.tries ∧ o.tries ≤ 65536 ∧ o.zero < 4294967296
theorem agA_len {now : Int} {o : OutS} (h : o.parts.length ≤ 32) : (agA now o).length ≤ 32 := by
  unfold agA
  split
  · simp
  · split
    · exact Nat.le_trans (segsW_len _ _) h
    · simp
theorem agO_len (now : Int) (o : OutS) : (agO now o).length ≤ 1 := by
  unfold agO
  split
  · simp
  · split <;> simp
theorem agL_len (now : Int) (o : OutS) : (agL now o).length ≤ 1 := by
  unfold agL
  split
  · simp
  · split
    · simp
    · split <;> simp

theorem BT.apart {w : World} {b : Nat} {t : TypeId} {cs : List Value} (h : BT w b t cs) {base' size' n' : Nat} {e' : TypeId} {x : Value} {zs : List Value} (h' : w.ownsRow base' e' size' x n' zs) (hne : t ≠ e') : some b ≠ x.ownBlock := by
  intro he
  rcases h'.2 with ⟨rfl, _⟩ | ⟨g2, _, _, rfl, _, k2, _⟩
  · simp [Value.ownBlock] at he
  · simp only [Value.ownBlock, Option.some.injEq] at he
    subst he
    unfold BT at h
    rw [h] at k2
    simp only [Option.some.injEq, Obj.cells.injEq] at k2
    exact hne k2.2.1
/-- The state in the middle of Again. -/
structure ASt (os : List OutS) (is : List InS) (w wr : World) (base tb rb g h N M : Nat) (xs ys : List Value) (k : Nat) (v5 v6 v7 : Value) (A : List Outw) (L : List Nat) (O : List OutS) : Prop where
  ks : KSt os is w wr base tb rb g h N M xs ys
  again : OwnOutw wr base v5 A
  lost : wr.ownsRow base 39 1 v6 L.length (u16s L)
  out : ∃ zs : List Value, wr.ownsRow base 75 10 v7 O.length (flat2 outCs O zs) ∧ OwnMany OutS.parts wr base O zs ∧ ∀ z ∈ zs, ∃ j, j < k ∧ xs[j]? = some z
  ap : ∀ gb, v7.ownBlock = some gb → gb ≠ g
section
variable {os : List OutS} {is : List InS} {w wr w' w9 : World} {base tb rb g h N M k : Nat} {xs ys : List Value} {v5 v6 v7 v9 : Value} {A : List Outw} {L : List Nat} {O : List OutS}
theorem KSt.grownA (k : KSt os is w wr base tb rb g h N M xs ys) {size' n' base' : Nat} {x : Value} {zs : List Value} (h' : wr.ownsRow base' 75 size' x n' zs) (hbb : base ≤ base') (hbw : base' ≤ wr.heap.size) (ha : ∀ gb, x.ownBlock = some gb → gb ≠ g) (hg : wr.grownBy w' x.ownBlock) : KSt os is w w' base tb rb g h N M xs ys := by
  obtain ⟨l1, l2, l3, l4, l5, l6⟩ := k.lt
  have hne : ∀ b, b < base → some b ≠ x.ownBlock := fun b hb he => by
    have := (h'.lt b he.symm).1
    omega
  refine ⟨k.bt.grown hg (hne _ l1), k.br.grown hg (hne _ l2), own_apart k.og hg (fun g' h1 h2 => ?_), k.om.grown h' (by decide) (by decide) hg, own_grown_type k.ih h' (by decide) hg, k.im.grown h' (by decide) (by decide) hg, k.cr, below_app k.be h' hg (by omega) hbw, ⟨l1, l2, l3, l4, l5, Nat.le_trans l6 hg.size⟩, k.len⟩
  simp only [Value.ownBlock, Option.some.injEq] at h1
  exact ha g' h2.symm h1.symm
theorem ASt.on (a : ASt os is w wr base tb rb g h N M xs ys k v5 v6 v7 A L O) (hb : Below wr.heap.size wr w') : ASt os is w w' base tb rb g h N M xs ys k v5 v6 v7 A L O := by
  obtain ⟨zs, z1, z2, z3⟩ := a.out
  exact ⟨a.ks.on hb, a.again.on hb, own_on a.lost hb, ⟨zs, own_on z1 hb, z2.on hb, z3⟩, a.ap⟩
theorem ASt.more (a : ASt os is w wr base tb rb g h N M xs ys k v5 v6 v7 A L O) {k' : Nat} (hk : k ≤ k') : ASt os is w wr base tb rb g h N M xs ys k' v5 v6 v7 A L O := by
  obtain ⟨zs, z1, z2, z3⟩ := a.out
  exact ⟨a.ks, a.again, a.lost, ⟨zs, z1, z2, fun z hz => by obtain ⟨j, h1, h2⟩ := z3 z hz; exact ⟨j, by omega, h2⟩⟩, a.ap⟩
/-- A segment more. -/
theorem ASt.addA (a : ASt os is w wr base tb rb g h N M xs ys k v5 v6 v7 A L O) {n : Nat} {vs : List Value} {u : Value} {p : Outw} (hl : vs.length = A.length) (hn : n = A.length) (hrow : wr.ownsRow base 65 13 v5 n (flat2 owF A vs)) (hob : ∀ (i : Nat) (p : Outw) (u : Value), A[i]? = some p → vs[i]? = some u → OB wr base u p.2) (hu : OB wr base u p.2)
    (h9 : w9.ownsRow base 65 13 v9 (n + 1) (flat2 owF A vs ++ owF p u)) (hg : wr.grownBy w9 v5.ownBlock) : ASt os is w w9 base tb rb g h N M xs ys k v9 v6 v7 (A ++ [p]) L O := by
  obtain ⟨zs, z1, z2, z3⟩ := a.out
  exact ⟨a.ks.grown hrow (Nat.le_refl _) a.ks.lt.2.2.2.2.2 (by decide) (by decide) (by decide) (by decide) hg, ownM_snoc hl hn (by decide) hrow hob hu h9 hg, own_grown_ty a.lost hrow (by decide) hg,
    ⟨zs, own_grown_ty z1 hrow (by decide) hg, z2.grown hrow (by decide) (by decide) hg, z3⟩, a.ap⟩
/-- A destination more. -/
theorem ASt.addL (a : ASt os is w wr base tb rb g h N M xs ys k v5 v6 v7 A L O) {d : Nat} (h9 : w9.ownsRow base 39 1 v9 (L.length + 1) (u16s L ++ [.int .u16 (d : Int)])) (hg : wr.grownBy w9 v6.ownBlock) : ASt os is w w9 base tb rb g h N M xs ys k v5 v9 v7 A (L ++ [d]) O := by
  obtain ⟨zs, z1, z2, z3⟩ := a.out
  refine ⟨a.ks.grown a.lost (Nat.le_refl _) a.ks.lt.2.2.2.2.2 (by decide) (by decide) (by decide) (by decide) hg, a.again.grown a.lost (by decide) (by decide) hg, ?_,
    ⟨zs, own_grown_ty z1 a.lost (by decide) hg, z2.grown a.lost (by decide) (by decide) hg, z3⟩, a.ap⟩
  rw [u16s_append, List.length_append]
  exact h9
/-- A message more that stays. -/
theorem ASt.addO (a : ASt os is w wr base tb rb g h N M xs ys k v5 v6 v7 A L O) {zs : List Value} {o o' : OutS} {v : Value} (z1 : wr.ownsRow base 75 10 v7 O.length (flat2 outCs O zs)) (z2 : OwnMany OutS.parts wr base O zs) (z3 : ∀ z ∈ zs, ∃ j, j < k ∧ xs[j]? = some z) (ho : os[k]? = some o) (hv : xs[k]? = some v) (hp : o'.parts = o.parts)
    (h9 : w9.ownsRow base 75 10 v9 (O.length + 1) (flat2 outCs O zs ++ outCs o' v)) (hg : wr.grownBy w9 v7.ownBlock) (hat : v9.ownBlock = v7.ownBlock ∨ v9.ownBlock = some wr.heap.size) : ASt os is w w9 base tb rb g h N M xs ys (k + 1) v5 v6 v9 A L (O ++ [o']) := by
  have zg := (a.ks.og.lt g rfl).2
  have hks := a.ks.grownA z1 (Nat.le_refl _) a.ks.lt.2.2.2.2.2 a.ap hg
  refine ⟨hks, a.again.grown z1 (by decide) (by decide) hg, own_grown_ty a.lost z1 (by decide) hg, ⟨zs ++ [v], ?_, ?_, fun z hz => ?_⟩, fun gb hgb => ?_⟩
  · rw [flat2_append _ _ _ _ z2.1, flat2_one, show (O ++ [o']).length = O.length + 1 by simp]
    exact h9
  · have z2' := z2.grown z1 (by decide) (by decide) hg
    refine ⟨by simp [z2'.1], fun i p u hp' hu' => ?_, fun i j u x hij hu' hx' => ?_⟩
    · by_cases hi : i < O.length
      · rw [List.getElem?_append_left hi] at hp'
        rw [List.getElem?_append_left (by rw [z2'.1]; exact hi)] at hu'
        exact z2'.2.1 i p u hp' hu'
      · have hie : i = O.length := by
          have := (List.getElem?_eq_some_iff.1 hp').1
          simp at this
          omega
        subst hie
        rw [List.getElem?_append_right (Nat.le_refl _), Nat.sub_self] at hp'
        rw [List.getElem?_append_right (by rw [z2'.1]; exact Nat.le_refl _), z2'.1, Nat.sub_self] at hu'
        simp only [List.getElem?_cons_zero, Option.some.injEq] at hp' hu'
        subst hp' hu'
        rw [hp]
        exact hks.om.2.1 k o v ho hv
    · by_cases hj : j < O.length
      · rw [List.getElem?_append_left (by rw [z2'.1]; omega)] at hu'
        rw [List.getElem?_append_left (by rw [z2'.1]; exact hj)] at hx'
        exact z2'.2.2 i j u x hij hu' hx'
      · have hje : j = O.length := by
          have := (List.getElem?_eq_some_iff.1 hx').1
          simp [z2'.1] at this
          omega
        subst hje
        rw [List.getElem?_append_left (by rw [z2'.1]; exact hij)] at hu'
        rw [List.getElem?_append_right (by rw [z2'.1]; exact Nat.le_refl _), z2'.1, Nat.sub_self] at hx'
        simp only [List.getElem?_cons_zero, Option.some.injEq] at hx'
        subst hx'
        obtain ⟨j', h1, h2⟩ := z3 u (List.mem_of_getElem? hu')
        exact a.ks.om.2.2 j' k u v h1 h2 hv
  · rcases List.mem_append.1 hz with hz | hz
    · obtain ⟨j', h1, h2⟩ := z3 z hz
      exact ⟨j', by omega, h2⟩
    · simp only [List.mem_singleton] at hz
      subst hz
      exact ⟨k, Nat.lt_succ_self _, hv⟩
  · rcases hat with hat | hat
    · exact a.ap gb (by rw [← hat]; exact hgb)
    · rw [hat] at hgb
      simp only [Option.some.injEq] at hgb
      omega
/-- The box of the message in hand is written. -/
theorem ASt.boxed (a : ASt os is w wr base tb rb g h N M xs ys k v5 v6 v7 A L O) {bm : Nat} {cs : List Value} (hT : BT wr bm 75 cs) (hb : base ≤ bm) (hl : cs.length = 10) (hbg : bm ≠ g) (h7 : some bm ≠ v7.ownBlock) (j : Nat) (u : Value) : ASt os is w (wr.setCell ⟨bm, j, none⟩ u) base tb rb g h N M xs ys k v5 v6 v7 A L O := by
  obtain ⟨zs, z1, z2, z3⟩ := a.out
  have hr := hT.row hb hl
  have hgr := (hr.stored j u).2
  refine ⟨a.ks.grownA hr (Nat.le_refl _) a.ks.lt.2.2.2.2.2 (fun gb hgb => ?_) hgr, a.again.grown hr (by decide) (by decide) hgr, own_grown_ty a.lost hr (by decide) hgr, ⟨zs, own_apart z1 hgr (fun g' h1 h2 => ?_), z2.grown hr (by decide) (by decide) hgr, z3⟩, a.ap⟩
  · simp only [Value.ownBlock, Option.some.injEq] at hgb
    omega
  · exact h7 (h2.symm.trans h1.symm)
/-- The rows are those of the result. -/
theorem ASt.fin (a : ASt os is w wr base tb rb g h N M xs ys k v5 v6 v7 A L O) : RetSt O is w (wr.setCell ⟨tb, 0, none⟩ v7) base tb rb v7 (.slice (some ⟨h, 0, none⟩) M M) ∧ OwnOutw (wr.setCell ⟨tb, 0, none⟩ v7) base v5 A ∧ (wr.setCell ⟨tb, 0, none⟩ v7).ownsRow base 39 1 v6 L.length (u16s L) := by
  obtain ⟨zs, z1, z2, z3⟩ := a.out
  obtain ⟨l1, l2, l3, l4, l5, l6⟩ := a.ks.lt
  exact ⟨⟨a.ks.bt.set 0 v7, a.ks.br.far (Ne.symm l5) _, ⟨zs, own_far z1 l1 0 _, z2.far l1 0 _⟩, ⟨ys, by rw [a.ks.len.2]; exact own_far a.ks.ih l1 0 _, a.ks.im.far l1 0 _⟩, a.ks.be.setCell l3 _, ⟨l1, l2, l3, l4, l5⟩⟩, a.again.far l1 0 _, own_far a.lost l1 0 _⟩
end
/-- What Again leaves. -/
def AgainPost (os : List OutS) (is : List InS) (now : Int) (w : World) (e : Ending) (w' : World) : Prop :=
  Below w.heap.size w w' ∧ ∃ v u x y, e = .returned (.tuple #[.agg #[v, u], x, y]) ∧ RowV2 outCs 10 OutS.parts w' w.heap.size w'.heap.size v (againO os now) ∧ RowV2 inCs 11 InS.parts w' w.heap.size w'.heap.size u is ∧ OutwsV2 w' w.heap.size w'.heap.size x (againA os now) ∧ Sl2 w' w.heap.size w'.heap.size 1 y (againL os now).length (u16s (againL os now))

def SlP (w : World) (P : Nat → Prop) (size : Nat) (v : Value) (n : Nat) (cs : List Value) : Prop :=
  ∃ A c, v = .slice A n c ∧ n ≤ c ∧ c ≤ maxLen ∧ cs.length = n * size ∧ (cs = [] ∨ ∃ b off, A = some ⟨b, off, none⟩ ∧ P b ∧ ∀ (k : Nat) (u : Value), cs[k]? = some u → w.cell? ⟨b, off + k, none⟩ = some u)
section
variable {w w' : World} {P Q : Nat → Prop} {b0 B size n : Nat} {v : Value} {cs : List Value}
theorem SlP.keep (h : SlP w P size v n cs) (hk : ∀ b o, P b → w'.cell? ⟨b, o, none⟩ = w.cell? ⟨b, o, none⟩) : SlP w' P size v n cs := by
  obtain ⟨A, c, rfl, h1, h2, h3, h4⟩ := h
  refine ⟨A, c, rfl, h1, h2, h3, ?_⟩
  rcases h4 with h4 | ⟨b, off, rfl, hb, hc⟩
  · exact .inl h4
  · exact .inr ⟨b, off, rfl, hb, fun k u hu => (hk _ _ hb).trans (hc k u hu)⟩
theorem SlP.imp (h : SlP w P size v n cs) (hi : ∀ b, P b → Q b) : SlP w Q size v n cs := by
  obtain ⟨A, c, rfl, h1, h2, h3, h4⟩ := h
  refine ⟨A, c, rfl, h1, h2, h3, ?_⟩
  rcases h4 with h4 | ⟨b, off, rfl, hb, hc⟩
  · exact .inl h4
  · exact .inr ⟨b, off, rfl, hi b hb, hc⟩
theorem SlP.weak (h : SlP w P size v n cs) (hi : ∀ b, P b → b < B) : Sl w B size v n cs := by
  obtain ⟨A, c, rfl, h1, h2, h3, h4⟩ := h
  refine ⟨A, c, rfl, h1, h2, h3, ?_⟩
  rcases h4 with h4 | ⟨b, off, rfl, hb, hc⟩
  · exact .inl h4
  · exact .inr ⟨b, off, rfl, hi b hb, hc⟩
theorem Sl2.toP (h : Sl2 w b0 B size v n cs) (hi : ∀ b, b0 ≤ b → b < B → P b) : SlP w P size v n cs := by
  obtain ⟨A, c, rfl, h1, h2, h3, h4⟩ := h
  refine ⟨A, c, rfl, h1, h2, h3, ?_⟩
  rcases h4 with h4 | ⟨b, off, rfl, hb0, hb, hc⟩
  · exact .inl h4
  · exact .inr ⟨b, off, rfl, hi b hb0 hb, hc⟩
abbrev BSP (w : World) (P : Nat → Prop) (v : Value) (l : List UInt8) : Prop := SlP w P 1 v l.length (bys l)
def PartsP (w : World) (P : Nat → Prop) (v : Value) (ps : List (List UInt8)) : Prop :=
  ∃ us : List Value, us.length = ps.length ∧ SlP w P 1 v ps.length us ∧ ∀ (k : Nat) u p, us[k]? = some u → ps[k]? = some p → BSP w P u p
variable {ps : List (List UInt8)}
theorem PartsP.keep (h : PartsP w P v ps) (hk : ∀ b o, P b → w'.cell? ⟨b, o, none⟩ = w.cell? ⟨b, o, none⟩) : PartsP w' P v ps := by
  obtain ⟨us, h1, h2, h3⟩ := h
  exact ⟨us, h1, h2.keep hk, fun k u p hu hp => (h3 k u p hu hp).keep hk⟩
theorem PartsP.imp (h : PartsP w P v ps) (hi : ∀ b, P b → Q b) : PartsP w Q v ps := by
  obtain ⟨us, h1, h2, h3⟩ := h
  exact ⟨us, h1, h2.imp hi, fun k u p hu hp => (h3 k u p hu hp).imp hi⟩
theorem PartsP.weak (h : PartsP w P v ps) (hi : ∀ b, P b → b < B) : PartsV w B v ps := by
  obtain ⟨us, h1, h2, h3⟩ := h
  exact ⟨us, h1, h2.weak hi, h1, fun k u p hu hp => (h3 k u p hu hp).weak hi⟩
theorem PartsV2.toP (h : PartsV2 w b0 B v ps) (hi : ∀ b, b0 ≤ b → b < B → P b) : PartsP w P v ps := by
  obtain ⟨us, h1, h2, h3⟩ := h
  exact ⟨us, h1, h2.toP hi, fun k u p hu hp => Sl2.toP (h3 k u p hu hp) hi⟩
end
section
variable {α : Type} (f : α → Value → List Value) (m : Nat) (pf : α → List (List UInt8)) (bf : α → List UInt8)
def RowP (w : World) (P : Nat → Prop) (v : Value) (os : List α) : Prop :=
  ∃ vs : List Value, vs.length = os.length ∧ SlP w P m v os.length (flat2 f os vs) ∧ ∀ (k : Nat) o u, os[k]? = some o → vs[k]? = some u → PartsP w P u (pf o)
def ManyP (w : World) (P : Nat → Prop) (v : Value) (ps : List α) : Prop :=
  ∃ vs : List Value, vs.length = ps.length ∧ SlP w P m v ps.length (flat2 f ps vs) ∧ ∀ (k : Nat) p u, ps[k]? = some p → vs[k]? = some u → BSP w P u (bf p)
variable {f m pf bf} {w w' : World} {P Q : Nat → Prop} {b0 B : Nat} {v : Value} {os : List α}
theorem RowP.keep (h : RowP f m pf w P v os) (hk : ∀ b o, P b → w'.cell? ⟨b, o, none⟩ = w.cell? ⟨b, o, none⟩) : RowP f m pf w' P v os := by
  obtain ⟨vs, h1, h2, h3⟩ := h
  exact ⟨vs, h1, h2.keep hk, fun k o u ho hu => (h3 k o u ho hu).keep hk⟩
theorem RowP.imp (h : RowP f m pf w P v os) (hi : ∀ b, P b → Q b) : RowP f m pf w Q v os := by
  obtain ⟨vs, h1, h2, h3⟩ := h
  exact ⟨vs, h1, h2.imp hi, fun k o u ho hu => (h3 k o u ho hu).imp hi⟩
theorem RowP.weak (h : RowP f m pf w P v os) (hi : ∀ b, P b → b < B) : RowV f m pf w B v os := by
  obtain ⟨vs, h1, h2, h3⟩ := h
  exact ⟨vs, h1, h2.weak hi, fun k o u ho hu => (h3 k o u ho hu).weak hi⟩
theorem RowV2.toP (h : RowV2 f m pf w b0 B v os) (hi : ∀ b, b0 ≤ b → b < B → P b) : RowP f m pf w P v os := by
  obtain ⟨vs, h1, h2, h3⟩ := h
  exact ⟨vs, h1, h2.toP hi, fun k o u ho hu => (h3 k o u ho hu).toP hi⟩
theorem ManyP.keep (h : ManyP f m bf w P v os) (hk : ∀ b o, P b → w'.cell? ⟨b, o, none⟩ = w.cell? ⟨b, o, none⟩) : ManyP f m bf w' P v os := by
  obtain ⟨vs, h1, h2, h3⟩ := h
  exact ⟨vs, h1, h2.keep hk, fun k o u ho hu => (h3 k o u ho hu).keep hk⟩
theorem ManyP.imp (h : ManyP f m bf w P v os) (hi : ∀ b, P b → Q b) : ManyP f m bf w Q v os := by
  obtain ⟨vs, h1, h2, h3⟩ := h
  exact ⟨vs, h1, h2.imp hi, fun k o u ho hu => SlP.imp (h3 k o u ho hu) hi⟩
theorem ManyP.weak (h : ManyP f m bf w P v os) (hi : ∀ b, P b → b < B) : ManyV f m bf w B v os := by
  obtain ⟨vs, h1, h2, h3⟩ := h
  exact ⟨vs, h1, h2.weak hi, fun k o u ho hu => SlP.weak (h3 k o u ho hu) hi⟩
theorem ManyV2.toP (h : ManyV2 f m bf w b0 B v os) (hi : ∀ b, b0 ≤ b → b < B → P b) : ManyP f m bf w P v os := by
  obtain ⟨vs, h1, h2, h3⟩ := h
  exact ⟨vs, h1, h2.toP hi, fun k o u ho hu => Sl2.toP (h3 k o u ho hu) hi⟩
theorem ManyP.form (h : ManyP f m bf w P v os) : ∃ A c, v = .slice A os.length c := by
  obtain ⟨vs, _, ⟨A, c, rfl, _⟩, _⟩ := h
  exact ⟨A, c, rfl⟩
theorem RowP.form (h : RowP f m pf w P v os) : ∃ A c, v = .slice A os.length c := by
  obtain ⟨vs, _, ⟨A, c, rfl, _⟩, _⟩ := h
  exact ⟨A, c, rfl⟩
end
/-- A block that is neither of two boxes. -/
def Av (tb ub : Nat) (w : World) (b : Nat) : Prop := b ≠ tb ∧ b ≠ ub ∧ b < w.heap.size
section
variable {w w' : World} {tb ub b0 : Nat}
theorem Av.on {b : Nat} (hb : Below w.heap.size w w') (h : Av tb ub w b) : Av tb ub w' b := ⟨h.1, h.2.1, Nat.lt_of_lt_of_le h.2.2 hb.size⟩
theorem av_keep (hb : Below w.heap.size w w') : ∀ b o, Av tb ub w b → w'.cell? ⟨b, o, none⟩ = w.cell? ⟨b, o, none⟩ := fun _ _ h => hb.cell (p := ⟨_, _, none⟩) h.2.2
theorem av_far {c : Nat} (hc : c = tb ∨ c = ub) (j : Nat) (x : Value) : ∀ b o, Av tb ub w b → (w.setCell ⟨c, j, none⟩ x).cell? ⟨b, o, none⟩ = w.cell? ⟨b, o, none⟩ := by
  intro b o h
  have hne : b ≠ c := by
    rcases hc with rfl | rfl
    · exact h.1
    · exact h.2.1
  unfold World.cell?
  rw [heap_setCell_other _ ⟨c, j, none⟩ b x hne]
variable {α : Type} {f : α → Value → List Value} {m : Nat} {pf : α → List (List UInt8)} {bf : α → List UInt8} {v : Value} {os : List α}
theorem row_on (h : RowP f m pf w (Av tb ub w) v os) (hb : Below w.heap.size w w') : RowP f m pf w' (Av tb ub w') v os := (h.keep (av_keep hb)).imp fun _ h => h.on hb
theorem many_on (h : ManyP f m bf w (Av tb ub w) v os) (hb : Below w.heap.size w w') : ManyP f m bf w' (Av tb ub w') v os := (h.keep (av_keep hb)).imp fun _ h => h.on hb
theorem row_far {c : Nat} (h : RowP f m pf w (Av tb ub w) v os) (hc : c = tb ∨ c = ub) (j : Nat) (x : Value) : RowP f m pf (w.setCell ⟨c, j, none⟩ x) (Av tb ub (w.setCell ⟨c, j, none⟩ x)) v os :=
  (h.keep (av_far hc j x)).imp fun _ h => ⟨h.1, h.2.1, by simpa using h.2.2⟩
theorem many_far {c : Nat} (h : ManyP f m bf w (Av tb ub w) v os) (hc : c = tb ∨ c = ub) (j : Nat) (x : Value) : ManyP f m bf (w.setCell ⟨c, j, none⟩ x) (Av tb ub (w.setCell ⟨c, j, none⟩ x)) v os :=
  (h.keep (av_far hc j x)).imp fun _ h => ⟨h.1, h.2.1, by simpa using h.2.2⟩
theorem row_new (h : RowV2 f m pf w b0 w.heap.size v os) (h1 : tb < b0) (h2 : ub < b0) : RowP f m pf w (Av tb ub w) v os := h.toP fun b h3 h4 => ⟨by omega, by omega, h4⟩
theorem many_new (h : ManyV2 f m bf w b0 w.heap.size v os) (h1 : tb < b0) (h2 : ub < b0) : ManyP f m bf w (Av tb ub w) v os := h.toP fun b h3 h4 => ⟨by omega, by omega, h4⟩
theorem row_reads (h : RowP f m pf w (Av tb ub w) v os) : RowV f m pf w w.heap.size v os := h.weak fun _ h => h.2.2
theorem many_reads (h : ManyP f m bf w (Av tb ub w) v os) : ManyV f m bf w w.heap.size v os := h.weak fun _ h => h.2.2
end
/-- The two states of the exchange, in their boxes; the message. -/
structure MSt (a : AccS) (bv : Value) (w wr : World) (ab tb ub : Nat) (vt ut vu uu : Value) (os : List OutS) (is : List InS) : Prop where
  bt : Box wr tb [vt, ut]
  bu : Box wr ub [vu, uu]
  ba : Box wr ab (accCs a bv)
  ot : RowP outCs 10 OutS.parts wr (Av tb ub wr) vt os
  it : RowP inCs 11 InS.parts wr (Av tb ub wr) ut []
  ou : RowP outCs 10 OutS.parts wr (Av tb ub wr) vu []
  iu : RowP inCs 11 InS.parts wr (Av tb ub wr) uu is
  be : Below w.heap.size w wr
  lt : w.heap.size ≤ ab ∧ w.heap.size ≤ tb ∧ w.heap.size ≤ ub ∧ ab ≠ tb ∧ ab ≠ ub ∧ tb ≠ ub
section
variable {a : AccS} {bv : Value} {w wr w' : World} {ab tb ub : Nat} {vt ut vu uu vt' ut' vu' uu' : Value} {os os' : List OutS} {is is' : List InS}
theorem MSt.on (h : MSt a bv w wr ab tb ub vt ut vu uu os is) (hb : Below wr.heap.size wr w') : MSt a bv w w' ab tb ub vt ut vu uu os is :=
  ⟨h.bt.on hb, h.bu.on hb, h.ba.on hb, row_on h.ot hb, row_on h.it hb, row_on h.ou hb, row_on h.iu hb, bthen h.be hb, h.lt⟩
/-- The receiver's box is filled anew. -/
theorem MSt.putU (h : MSt a bv w wr ab tb ub vt ut vu uu os is) (ho : RowP outCs 10 OutS.parts wr (Av tb ub wr) vu' []) (hi : RowP inCs 11 InS.parts wr (Av tb ub wr) uu' is') : MSt a bv w (wr.setCells ub 0 [vu', uu']) ab tb ub vt ut vu' uu' os is' := by
  obtain ⟨l1, l2, l3, l4, l5, l6⟩ := h.lt
  exact ⟨h.bt.puts_far l6 0 _, h.bu.put _ rfl, h.ba.puts_far l5 0 _, row_far (row_far h.ot (.inr rfl) 0 _) (.inr rfl) 1 _, row_far (row_far h.it (.inr rfl) 0 _) (.inr rfl) 1 _, row_far (row_far ho (.inr rfl) 0 _) (.inr rfl) 1 _, row_far (row_far hi (.inr rfl) 0 _) (.inr rfl) 1 _, below_puts l3 0 _ h.be, h.lt⟩
theorem MSt.putT (h : MSt a bv w wr ab tb ub vt ut vu uu os is) (ho : RowP outCs 10 OutS.parts wr (Av tb ub wr) vt' os') (hi : RowP inCs 11 InS.parts wr (Av tb ub wr) ut' []) : MSt a bv w (wr.setCells tb 0 [vt', ut']) ab tb ub vt' ut' vu uu os' is := by
  obtain ⟨l1, l2, l3, l4, l5, l6⟩ := h.lt
  exact ⟨h.bt.put _ rfl, h.bu.puts_far (Ne.symm l6) 0 _, h.ba.puts_far l4 0 _, row_far (row_far ho (.inl rfl) 0 _) (.inl rfl) 1 _, row_far (row_far hi (.inl rfl) 0 _) (.inl rfl) 1 _, row_far (row_far h.ou (.inl rfl) 0 _) (.inl rfl) 1 _, row_far (row_far h.iu (.inl rfl) 0 _) (.inl rfl) 1 _, below_puts l2 0 _ h.be, h.lt⟩
end
theorem many_putU {α : Type} {f : α → Value → List Value} {m : Nat} {bf : α → List UInt8} {v x y : Value} {ps : List α} {w : World} {tb ub : Nat} (h : ManyP f m bf w (Av tb ub w) v ps) : ManyP f m bf (w.setCells ub 0 [x, y]) (Av tb ub (w.setCells ub 0 [x, y])) v ps := many_far (many_far h (.inr rfl) 0 _) (.inr rfl) 1 _
theorem many_putT {α : Type} {f : α → Value → List Value} {m : Nat} {bf : α → List UInt8} {v x y : Value} {ps : List α} {w : World} {tb ub : Nat} (h : ManyP f m bf w (Av tb ub w) v ps) : ManyP f m bf (w.setCells tb 0 [x, y]) (Av tb ub (w.setCells tb 0 [x, y])) v ps := many_far (many_far h (.inl rfl) 0 _) (.inl rfl) 1 _
/-- The cells of a PDU on its way. -/
theorem outws_at {w : World} {B : Nat} {v : Value} {ps : List Outw} (h : OutwsV w B v ps) {i : Nat} {a : Outw} (hi : ps[i]? = some a) : ∃ (b o c : Nat) (u : Value), v = .slice (some ⟨b, o, none⟩) ps.length c ∧ b < B ∧ (∀ (j : Nat) (y : Value), (owF a u)[j]? = some y → w.cell? ⟨b, o + i * 13 + j, none⟩ = some y) ∧ BS w B u a.2 := by
  obtain ⟨vs, h1, h2, h3⟩ := h
  have hiv : i < vs.length := by have := (List.getElem?_eq_some_iff.1 hi).1; omega
  have hv := List.getElem?_eq_getElem hiv
  have hp := h3 i a vs[i] hi hv
  have c0 := flat2_at owF_len ps vs i a vs[i] 0 h1 hi hv (by omega)
  obtain ⟨A, c, rfl, _⟩ := id h2
  obtain ⟨b, o, rfl, hB, hc⟩ := h2.cells c0
  refine ⟨b, o, c, vs[i], rfl, hB, fun j y hy => ?_, hp⟩
  have hj : j < 13 := (List.getElem?_eq_some_iff.1 hy).1
  have cj := flat2_at owF_len ps vs i a vs[i] j h1 hi hv hj
  rw [Nat.add_assoc]
  exact hc _ _ (cj.trans hy)
end Go.Proofs.Ytkpjinkkjbljkaa
