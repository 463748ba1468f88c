/- The walk of transport.clone: a state of its own that reads as the one given. No condition. -/
import Derived.Test.YtkpjinkkjbljkaaTs2
import Derived.Deep.RegionHeld3
import Derived.Deep.DeepCutAuto
import Derived.Deep.CutBlock
namespace Go.Proofs.Ytkpjinkkjbljkaa
open Go.RowKit

theorem heap_dr (w : World) (k : Nat) : w.drew.heap[k]? = w.heap[k]? := rfl
theorem heap3 (Y : World) (a b c : Obj) : ((((Y.alloc a).alloc b).alloc c).drew).heap[Y.heap.size]? = some a ∧ ((((Y.alloc a).alloc b).alloc c).drew).heap[Y.heap.size + 1]? = some b ∧ ((((Y.alloc a).alloc b).alloc c).drew).heap[Y.heap.size + 1 + 1]? = some c := by
  refine ⟨?_, ?_, ?_⟩
  · show (((Y.alloc a).alloc b).alloc c).heap[Y.heap.size]? = some a
    rw [Below.heap_alloc _ _ _ (by simp; omega), Below.heap_alloc _ _ _ (by simp), heap_alloc_new]
  · show (((Y.alloc a).alloc b).alloc c).heap[Y.heap.size + 1]? = some b
    rw [Below.heap_alloc _ _ _ (by simp), show Y.heap.size + 1 = (Y.alloc a).heap.size by simp, heap_alloc_new]
  · show (((Y.alloc a).alloc b).alloc c).heap[Y.heap.size + 1 + 1]? = some c
    rw [show Y.heap.size + 1 + 1 = ((Y.alloc a).alloc b).heap.size by simp, heap_alloc_new]
theorem elO : El Try.prog 44 75 10 72 := el_mk Try.underlying44 (z := .agg #[.int .u16 0, .int .u16 0, .bool false, .int .u32 0, .int .u32 0, .slice none 0 0, .int .u32 0, .int .i64 0, .int .i64 0, .int .i64 0]) (by kernel_rfl) rfl (by omega) (by omega)
theorem elIn : El Try.prog 45 95 11 80 := el_mk Try.underlying45 (z := .agg #[.int .u16 0, .int .u16 0, .bool false, .int .u32 0, .int .u32 0, .int .i64 0, .slice none 0 0, .int .u32 0, .int .i64 0, .int .i64 0, .bool false]) (by kernel_rfl) rfl (by omega) (by omega)
theorem elLo : El Try.prog 48 25 10 72 := el_mk Try.underlying48 (z := .agg #[.bool false, .bool false, .bool false, .int .i64 0, .int .i64 0, .int .i64 0, .int .i64 0, .int .u32 0, .bool false, .slice none 0 0]) (by kernel_rfl) rfl (by omega) (by omega)

theorem outCs_len (o : OutS) (v : Value) : (outCs o v).length = 10 := rfl
theorem inCs_len (o : InS) (v : Value) : (inCs o v).length = 11 := rfl
theorem outCs_one (o : OutS) {v : Value} (h : v.oneCell' = true) : ∀ u ∈ outCs o v, u.oneCell' = true := by
  intro u hu
  simp only [outCs, List.mem_cons, List.not_mem_nil, or_false] at hu
  rcases hu with rfl | rfl | rfl | rfl | rfl | rfl | rfl | rfl | rfl | rfl <;> first | rfl | exact h
theorem inCs_one (o : InS) {v : Value} (h : v.oneCell' = true) : ∀ u ∈ inCs o v, u.oneCell' = true := by
  intro u hu
  simp only [inCs, List.mem_cons, List.not_mem_nil, or_false] at hu
  rcases hu with rfl | rfl | rfl | rfl | rfl | rfl | rfl | rfl | rfl | rfl | rfl <;> first | rfl | exact h
/-- The cells of structs whose slices are slices are cells of one. -/
theorem flat2_cells {α : Type} {f : α → Value → List Value} (hf : ∀ o v, v.oneCell' = true → ∀ u ∈ f o v, u.oneCell' = true) (os : List α) (vs : List Value) (hv : ∀ v ∈ vs, v.oneCell' = true) : ∀ u ∈ flat2 f os vs, u.oneCell' = true := by
  intro u hu
  unfold flat2 at hu
  simp only [List.mem_flatten] at hu
  obtain ⟨l, hl, hu⟩ := hu
  obtain ⟨i, hi, rfl⟩ := List.mem_iff_getElem.1 hl
  rw [List.getElem_zipWith] at hu
  exact hf _ _ (hv _ (List.getElem_mem _)) u hu
theorem list_set_self {α : Type} {l : List α} {k : Nat} {x : α} (h : l[k]? = some x) : l.set k x = l := by
  apply List.ext_getElem?
  intro j
  by_cases hj : k = j
  · subst hj
    rw [List.getElem?_set_self (List.getElem?_eq_some_iff.1 h).1, h]
  · rw [List.getElem?_set_ne hj]
theorem partsV_form {w : World} {B : Nat} {v : Value} {ps : List (List UInt8)} (h : PartsV w B v ps) : ∃ A n c, v = .slice A n c := by
  obtain ⟨us, _, ⟨A, c, rfl, _⟩, _⟩ := h
  exact ⟨A, _, c, rfl⟩
theorem partsV_one {w : World} {B : Nat} {v : Value} {ps : List (List UInt8)} (h : PartsV w B v ps) : v.oneCell' = true := by
  obtain ⟨us, _, ⟨A, c, rfl, _⟩, _⟩ := h
  rfl
/-- The bounds of what is copied. -/
def Sized (pss : List (List (List UInt8))) : Prop := pss.length ≤ 65536 ∧ ∀ ps ∈ pss, ps.length ≤ 65536 ∧ ∀ p ∈ ps, p.length ≤ 65536
/-- The state's two rows, copied: each of its own. -/
def ClonePost (os : List OutS) (is : List InS) (w : World) (e : Ending) (w' : World) : Prop :=
  Below w.heap.size w w' ∧ ∃ g h, e = .returned (.agg #[.slice (some ⟨g, 0, none⟩) os.length os.length, .slice (some ⟨h, 0, none⟩) is.length is.length]) ∧
    OwnRow outCs 10 OutS.parts 75 w' w.heap.size (.slice (some ⟨g, 0, none⟩) os.length os.length) os ∧ OwnRow inCs 11 InS.parts 95 w' w.heap.size (.slice (some ⟨h, 0, none⟩) is.length is.length) is
/-- The slices of two lists, apart from each other. -/
def Cross (xs ys : List Value) : Prop := ∀ x ∈ xs, ∀ y ∈ ys, Apart x y
/-- The same, the rows and what they hold by name. -/
def ClonePost2 (os : List OutS) (is : List InS) (w : World) (e : Ending) (w' : World) : Prop :=
  Below w.heap.size w w' ∧ ∃ g h xs ys, e = .returned (.agg #[.slice (some ⟨g, 0, none⟩) os.length os.length, .slice (some ⟨h, 0, none⟩) is.length is.length]) ∧
    w'.ownsRow w.heap.size 75 10 (.slice (some ⟨g, 0, none⟩) os.length os.length) os.length (flat2 outCs os xs) ∧ OwnMany OutS.parts w' w.heap.size os xs ∧
    w'.ownsRow w.heap.size 95 11 (.slice (some ⟨h, 0, none⟩) is.length is.length) is.length (flat2 inCs is ys) ∧ OwnMany InS.parts w' w.heap.size is ys ∧ Cross xs ys
theorem res_tr {fn : Func} {i : Tmp} (h : fn.results = #[.cell i 47]) (tmps : Array Value) (w : World) (b : Nat) (u v : Value) (hp : tmps.getD i undef = .pointer (some ⟨b, 0, none⟩)) (hs : Box w b [u, v]) :
    (results fn tmps).run Try.prog w = .ok (.agg #[u, v]) w := by
  have c0 := hs.cell (j := 0) rfl
  have c1 := hs.cell (j := 1) rfl
  rw [Array.getD_eq_getD_getElem?] at hp
  simp [results, h, hp, go_sem, c0, c1]
/-- The structs' slices, the first k of them copied. -/
def MadeUpto {α : Type} (pf : α → List (List UInt8)) (wr : World) (base : Nat) (os : List α) (vs xs : List Value) (k : Nat) : Prop :=
  xs.length = os.length ∧ (∀ (j : Nat) o u, j < k → os[j]? = some o → xs[j]? = some u → OwnParts wr base u (pf o)) ∧ (∀ (i j : Nat) u x, i < j → j < k → xs[i]? = some u → xs[j]? = some x → Apart u x) ∧ ∀ j, k ≤ j → xs[j]? = vs[j]?
section
variable {α : Type} {pf : α → List (List UInt8)} {wr w1 : World} {base g n c size k : Nat} {os : List α} {vs xs ys : List Value} {t : TypeId} {u : Value} {o : α}
theorem OwnParts.store {v : Value} {ps : List (List UInt8)} (h : OwnParts w1 base v ps) (hrow : w1.ownsRow base t size (.slice (some ⟨g, 0, none⟩) n c) n ys) (ht : 23 ≠ t) (ht' : 5 ≠ t) (j : Nat) (x : Value) : OwnParts (w1.setCell ⟨g, j, none⟩ x) base v ps := by
  obtain ⟨us, k1, k2, k3⟩ := id h
  exact h.apart (hrow.stored j x).2 (far_type k2 hrow ht) (fun u p hu => far_type hu hrow ht')
theorem MadeUpto.step (hm : MadeUpto pf wr base os vs xs k) (hb : Below wr.heap.size wr w1) (hk : os[k]? = some o) (hu : OwnParts w1 wr.heap.size u (pf o)) (hbase : base ≤ wr.heap.size) (hrow : w1.ownsRow base t size (.slice (some ⟨g, 0, none⟩) n c) n ys)
    (ht : 23 ≠ t) (ht' : 5 ≠ t) (j : Nat) (x : Value) : MadeUpto pf (w1.setCell ⟨g, j, none⟩ x) base os vs (xs.set k u) (k + 1) := by
  obtain ⟨h1, h2, h3, h4⟩ := hm
  have hkl : k < xs.length := by rw [h1]; exact (List.getElem?_eq_some_iff.1 hk).1
  refine ⟨by simpa using h1, fun i o' u' hi ho' hu' => ?_, fun i i' u' x' hi hi' hu' hx' => ?_, fun i hi => ?_⟩
  · by_cases hik : i = k
    · subst hik
      rw [List.getElem?_set_self hkl] at hu'
      rw [hk] at ho'
      obtain rfl := Option.some.inj hu'
      obtain rfl := Option.some.inj ho'
      exact (hu.low hbase).store hrow ht ht' j x
    · rw [List.getElem?_set_ne (Ne.symm hik)] at hu'
      exact ((h2 i o' u' (by omega) ho' hu').on hb).store hrow ht ht' j x
  · rw [List.getElem?_set_ne (show k ≠ i by omega)] at hu'
    by_cases hik : i' = k
    · subst hik
      rw [List.getElem?_set_self hkl] at hx'
      obtain rfl := Option.some.inj hx'
      have hil : i < os.length := by have := (List.getElem?_eq_some_iff.1 hu').1; omega
      obtain ⟨_, _, k2, _⟩ := h2 i _ u' hi (List.getElem?_eq_getElem hil) hu'
      obtain ⟨_, _, k2', _⟩ := hu
      exact Apart.of_base k2 k2' (Nat.le_refl _)
    · rw [List.getElem?_set_ne (Ne.symm hik)] at hx'
      exact h3 i i' u' x' hi (by omega) hu' hx'
  · rw [List.getElem?_set_ne (by omega)]
    exact h4 i (by omega)
theorem MadeUpto.many (hm : MadeUpto pf wr base os vs xs os.length) : OwnMany pf wr base os xs :=
  ⟨hm.1, fun k o u ho hu => hm.2.1 k o u (List.getElem?_eq_some_iff.1 ho).1 ho hu, fun i j u x hij hu hx => hm.2.2.1 i j u x hij (by have := (List.getElem?_eq_some_iff.1 hx).1; have := hm.1; omega) hu hx⟩
theorem OwnMany.store (hm : OwnMany pf w1 base os xs) (hrow : w1.ownsRow base t size (.slice (some ⟨g, 0, none⟩) n c) n ys) (ht : 23 ≠ t) (ht' : 5 ≠ t) (j : Nat) (x : Value) : OwnMany pf (w1.setCell ⟨g, j, none⟩ x) base os xs :=
  ⟨hm.1, fun k o u ho hu => (hm.2.1 k o u ho hu).store hrow ht ht' j x, hm.2.2⟩
theorem own_far {w : World} {base : Nat} {e : TypeId} {size n b : Nat} {v : Value} {xs : List Value} (h : w.ownsRow base e size v n xs) (hb : b < base) (j : Nat) (x : Value) : (w.setCell ⟨b, j, none⟩ x).ownsRow base e size v n xs :=
  own_puts h (b := b) (fun g hg => by have := (h.lt g hg).1; omega) j [x]
theorem OwnParts.far {b : Nat} {v : Value} {ps : List (List UInt8)} (h : OwnParts w1 base v ps) (hb : b < base) (j : Nat) (x : Value) : OwnParts (w1.setCell ⟨b, j, none⟩ x) base v ps := by
  obtain ⟨us, k1, k2, k3⟩ := h
  exact ⟨us, k1, own_far k2 hb j x, fun k u p hu hp => own_far (k3 k u p hu hp) hb j x⟩
theorem OwnMany.far {b : Nat} (hm : OwnMany pf w1 base os xs) (hb : b < base) (j : Nat) (x : Value) : OwnMany pf (w1.setCell ⟨b, j, none⟩ x) base os xs :=
  ⟨hm.1, fun k o u ho hu => (hm.2.1 k o u ho hu).far hb j x, hm.2.2⟩
end
set_option maxRecDepth 100000 in
set_option maxHeartbeats 4000000 in
theorem clone_any2 (os : List OutS) (is : List InS) (v u : Value) (w : World) (hv : RowV outCs 10 OutS.parts w w.heap.size v os) (hu : RowV inCs 11 InS.parts w w.heap.size u is) (ho : Sized (os.map OutS.parts)) (hi : Sized (is.map InS.parts)) :
    Calls Try.prog 43 #[.agg #[v, u]] w (ClonePost2 os is w) := by
  obtain ⟨vs, hvl, hvs, hvp⟩ := hv
  obtain ⟨us, hul, hus, hup⟩ := hu
  have hoN : os.length ≤ 65536 := by have := ho.1; simpa using this
  have hiN : is.length ≤ 65536 := by have := hi.1; simpa using this
  obtain ⟨curO, hcurO, mkO⟩ := make_row (P := Try.prog) elO os.length (by omega) (by simp only [maxLen]; omega)
  obtain ⟨curI, hcurI, mkI⟩ := make_row (P := Try.prog) elIn is.length (by omega) (by simp only [maxLen]; omega)
  obtain ⟨A, c, rfl, hnc, hcm, hcl, _⟩ := id hvs
  obtain ⟨A', c', rfl, hnc', hcm', hcl', _⟩ := id hus
  have HVL := Lib.hid hvl
  have HVS := Lib.hid hvs
  have HVP := Lib.hid hvp
  have HUL := Lib.hid hul
  have HUS := Lib.hid hus
  have HUP := Lib.hid hup
  have HO := Lib.hid ho
  have HI := Lib.hid hi
  have HCO := Lib.hid hcurO
  have HCI := Lib.hid hcurI
  generalize hN : os.length = N at *
  generalize hM : is.length = M at *
  have HN := Lib.hid hN
  have HM := Lib.hid hM
  have HQ := Lib.hid (show ∀ (e : Ending) (w' : World), (Below w.heap.size w w' ∧ ∃ g h xs ys, e = .returned (.agg #[.slice (some ⟨g, 0, none⟩) N N, .slice (some ⟨h, 0, none⟩) M M]) ∧
    w'.ownsRow w.heap.size 75 10 (.slice (some ⟨g, 0, none⟩) N N) N (flat2 outCs os xs) ∧ OwnMany OutS.parts w' w.heap.size os xs ∧
    w'.ownsRow w.heap.size 95 11 (.slice (some ⟨h, 0, none⟩) M M) M (flat2 inCs is ys) ∧ OwnMany InS.parts w' w.heap.size is ys ∧ Cross xs ys) → ClonePost2 os is w e w' from fun e w' h => by
      unfold ClonePost2; rw [hN, hM]; exact h)
  generalize hQ : ClonePost2 os is w = Q at *
  clear hvl hvs hvp hul hus hup ho hi hcurO hcurI hcl hcl' hN hM hQ
  go_enter Try.func43, Try.ntmps43
  go_wp2_with fail
  obtain ⟨W, hW⟩ : ∃ W, W = (w.alloc (.cells #[.slice A N c, .slice A' M c'] 47)).alloc (.cells #[.slice none 0 0, .slice none 0 0] 47) := ⟨_, rfl⟩
  have hA : Below w.heap.size w W := by rw [hW]; exact al2 _ _ _
  have hbt : W.heap[w.heap.size]? = some (.cells #[.slice A N c, .slice A' M c'] 47 (0, 0)) := by rw [hW, heap_al, if_neg (by simp), heap_alloc_new]
  have hbr : W.heap[w.heap.size + 1]? = some (.cells #[.slice none 0 0, .slice none 0 0] 47 (0, 0)) := by rw [hW, heap_al, if_pos (by simp)]
  have hz : W.heap.size = w.heap.size + 2 := by rw [hW]; simp
  rw [← hW]
  clear hW
  have c0 := Box.cell (w := W) (b := w.heap.size) (cs := [.slice A N c, .slice A' M c']) ⟨_, hbt⟩ (j := 0) rfl
  have c1 := Box.cell (w := W) (b := w.heap.size) (cs := [.slice A N c, .slice A' M c']) ⟨_, hbt⟩ (j := 1) rfl
  have z0 : w.heap.size < W.heap.size := by omega
  have z1 : w.heap.size < W.heap.size + 1 := by omega
  have z2 : w.heap.size < W.heap.size + 1 + 1 := by omega
  have HZ := Lib.hid hz
  have HA := Lib.hid hA
  have HT := Lib.hid hbt
  have HR := Lib.hid hbr
  clear hz hA hbt hbr
  go_cut [3] (fun v3 wx => ∃ (b g h : Nat), v3 = .pointer (some ⟨b, 0, none⟩) ∧ wx.heap[b]? = some (.cells #[.slice (some ⟨g, 0, none⟩) N N, .slice (some ⟨h, 0, none⟩) M M] 47 (0, 0)) ∧ wx.heap[g]? = some (.cells curO 75 (0, 0)) ∧ wx.heap[h]? = some (.cells curI 95 (0, 0)) ∧ Below W.heap.size W wx ∧ W.heap.size ≤ b ∧ W.heap.size ≤ g ∧ W.heap.size ≤ h)
  case first =>
    go_region_held3 (fun w' => w'.cell? ⟨w.heap.size, 0, none⟩ = some (.slice A N c) ∧ w'.cell? ⟨w.heap.size, 1, none⟩ = some (.slice A' M c')) (simp [go_sem, c0, c1, z0, z1, z2]) (fail)
    all_goals
      go_wp2
      go_meet
    all_goals
      first
        | (refine ⟨W.heap.size, W.heap.size + 1, W.heap.size + 1 + 1, by with_reducible rfl, ?_, ?_, ?_, (al3 _ _ _ _).drew, by omega, by omega, by omega⟩
           with_reducible exact (heap3 W _ _ _).1
           with_reducible exact (heap3 W _ _ _).2.1
           with_reducible exact (heap3 W _ _ _).2.2)
        | (refine ⟨W.heap.size, W.heap.size + 1 + 1, W.heap.size + 1, by with_reducible rfl, ?_, ?_, ?_, (al3 _ _ _ _).drew, by omega, by omega, by omega⟩
           with_reducible exact (heap3 W _ _ _).1
           with_reducible exact (heap3 W _ _ _).2.2
           with_reducible exact (heap3 W _ _ _).2.1)
        | (refine ⟨W.heap.size + 1, W.heap.size, W.heap.size + 1 + 1, by with_reducible rfl, ?_, ?_, ?_, (al3 _ _ _ _).drew, by omega, by omega, by omega⟩
           with_reducible exact (heap3 W _ _ _).2.1
           with_reducible exact (heap3 W _ _ _).1
           with_reducible exact (heap3 W _ _ _).2.2)
        | (refine ⟨W.heap.size + 1, W.heap.size + 1 + 1, W.heap.size, by with_reducible rfl, ?_, ?_, ?_, (al3 _ _ _ _).drew, by omega, by omega, by omega⟩
           with_reducible exact (heap3 W _ _ _).2.1
           with_reducible exact (heap3 W _ _ _).2.2
           with_reducible exact (heap3 W _ _ _).1)
        | (refine ⟨W.heap.size + 1 + 1, W.heap.size, W.heap.size + 1, by with_reducible rfl, ?_, ?_, ?_, (al3 _ _ _ _).drew, by omega, by omega, by omega⟩
           with_reducible exact (heap3 W _ _ _).2.2
           with_reducible exact (heap3 W _ _ _).1
           with_reducible exact (heap3 W _ _ _).2.1)
        | (refine ⟨W.heap.size + 1 + 1, W.heap.size + 1, W.heap.size, by with_reducible rfl, ?_, ?_, ?_, (al3 _ _ _ _).drew, by omega, by omega, by omega⟩
           with_reducible exact (heap3 W _ _ _).2.2
           with_reducible exact (heap3 W _ _ _).2.1
           with_reducible exact (heap3 W _ _ _).1)
        | fail
  case rest =>
    obtain ⟨b, g, h, rfl, kb, kg, kh, hbw, zb, zg, zh⟩ := hcut
    have hz := HZ.out
    have nbg : b ≠ g := ne_cells kb kg (by decide)
    have nbh : b ≠ h := ne_cells kb kh (by decide)
    have ngh : g ≠ h := ne_cells kg kh (by decide)
    have kt : wc.heap[w.heap.size]? = some (.cells #[.slice A N c, .slice A' M c'] 47 (0, 0)) := by rw [hbw.block _ (by omega)]; exact HT.out
    have kr : wc.heap[w.heap.size + 1]? = some (.cells #[.slice none 0 0, .slice none 0 0] 47 (0, 0)) := by rw [hbw.block _ (by omega)]; exact HR.out
    have hBw : Below w.heap.size w wc := HA.out.trans (hbw.mono (by omega))
    have cpO := run_copy_row elO 3 wc (HVS.out.below hBw) (flat2_cells (fun o v => outCs_one o) os vs fun v hv => by
      obtain ⟨i, hi, rfl⟩ := List.mem_iff_getElem.1 hv
      have hio : i < os.length := by have := HVL.out; have := HN.out; omega
      exact partsV_one (HVP.out i _ _ (List.getElem?_eq_getElem hio) (List.getElem?_eq_getElem hi))) curO kg HCO.out
    obtain ⟨w1, hw1⟩ : ∃ w1, w1 = wc.setRow g (flat2 outCs os vs).toArray := ⟨_, rfl⟩
    have lb1 := (show w1.heap[b]? = wc.heap[b]? by rw [hw1, setRow_other _ _ _ _ nbg]).trans kb
    have lh1 := (show w1.heap[h]? = wc.heap[h]? by rw [hw1, setRow_other _ _ _ _ (Ne.symm ngh)]).trans kh
    have lt1 := (show w1.heap[w.heap.size]? = wc.heap[w.heap.size]? by rw [hw1, setRow_other _ _ _ _ (by omega)]).trans kt
    have lr1 := (show w1.heap[w.heap.size + 1]? = wc.heap[w.heap.size + 1]? by rw [hw1, setRow_other _ _ _ _ (by omega)]).trans kr
    have lg1 := (show w1.heap[g]? = some (.cells (flat2 outCs os vs).toArray 75 (0, 0)) from by rw [hw1]; exact setRow_heap _ _ _ _ _ _ kg)
    have hB1 : Below w.heap.size w w1 := by rw [hw1]; exact below_setRow hBw (by omega) _
    rw [← hw1] at cpO
    have cpI := run_copy_row elIn 3 w1 (HUS.out.below hB1) (flat2_cells (fun o v => inCs_one o) is us fun v hv => by
      obtain ⟨i, hi, rfl⟩ := List.mem_iff_getElem.1 hv
      have hio : i < is.length := by have := HUL.out; have := HM.out; omega
      exact partsV_one (HUP.out i _ _ (List.getElem?_eq_getElem hio) (List.getElem?_eq_getElem hi))) curI lh1 HCI.out
    obtain ⟨w2, hw2⟩ : ∃ w2, w2 = w1.setRow h (flat2 inCs is us).toArray := ⟨_, rfl⟩
    have lb2 := (show w2.heap[b]? = w1.heap[b]? by rw [hw2, setRow_other _ _ _ _ nbh]).trans lb1
    have lg2 := (show w2.heap[g]? = w1.heap[g]? by rw [hw2, setRow_other _ _ _ _ ngh]).trans lg1
    have lr2 := (show w2.heap[w.heap.size + 1]? = w1.heap[w.heap.size + 1]? by rw [hw2, setRow_other _ _ _ _ (by omega)]).trans lr1
    have lh2 := (show w2.heap[h]? = some (.cells (flat2 inCs is us).toArray 95 (0, 0)) from by rw [hw2]; exact setRow_heap _ _ _ _ _ _ lh1)
    have hB2 : Below w.heap.size w w2 := by rw [hw2]; exact below_setRow hB1 (by omega) _
    rw [← hw2] at cpI
    have p0 := Box.cell (w := wc) (b := w.heap.size) (cs := [.slice A N c, .slice A' M c']) ⟨_, kt⟩ (j := 0) rfl
    have p1 := Box.cell (w := w1) (b := w.heap.size) (cs := [.slice A N c, .slice A' M c']) ⟨_, lt1⟩ (j := 1) rfl
    have q0 := Box.cell (w := wc) (b := b) (cs := [.slice (some ⟨g, 0, none⟩) N N, .slice (some ⟨h, 0, none⟩) M M]) ⟨_, kb⟩ (j := 0) rfl
    have q1 := Box.cell (w := w1) (b := b) (cs := [.slice (some ⟨g, 0, none⟩) N N, .slice (some ⟨h, 0, none⟩) M M]) ⟨_, lb1⟩ (j := 1) rfl
    have r0 := Box.cell (w := w2) (b := b) (cs := [.slice (some ⟨g, 0, none⟩) N N, .slice (some ⟨h, 0, none⟩) M M]) ⟨_, lb2⟩ (j := 0) rfl
    have HXB := Lib.hid (show Box w2 b [.slice (some ⟨g, 0, none⟩) N N, .slice (some ⟨h, 0, none⟩) M M] from ⟨_, lb2⟩)
    have HXR := Lib.hid (show Box w2 (w.heap.size + 1) [.slice none 0 0, .slice none 0 0] from ⟨_, lr2⟩)
    have HOG := Lib.hid (own_row (base := w.heap.size + 2) (size := 10) (n := N) lg2 (by omega) (by simp only [maxLen]; omega) (by rw [flat2_len outCs_len, HN.out]; rw [HVL.out, HN.out]))
    have HOH := Lib.hid (own_row (base := w.heap.size + 2) (size := 11) (n := M) lh2 (by omega) (by simp only [maxLen]; omega) (by rw [flat2_len inCs_len, HM.out]; rw [HUL.out, HM.out]))
    have HB2 := Lib.hid hB2
    have HNE := Lib.hid (show b ≠ g ∧ b ≠ h ∧ w.heap.size + 1 ≠ g ∧ w.heap.size + 1 ≠ h from ⟨nbg, nbh, by omega, by omega⟩)
    have HGE := Lib.hid (show w.heap.size ≤ g ∧ w.heap.size ≤ h from ⟨by omega, by omega⟩)
    clear zb zg zh kb kg kh hbw hz nbg nbh ngh kt kr hBw lb1 lh1 lt1 lr1 lg1 hB1 lb2 lg2 lr2 lh2 hB2 hw1 hw2 HA HT HR c0 c1 z0 z1 z2 mkO mkI
    go_wp2_with fail
    go_loopw [28] (fun i wr => ∃ (k : Nat) (xs : List Value), k ≤ N ∧ i = .int .i64 k ∧ MadeUpto OutS.parts wr (w.heap.size + 2) os vs xs k ∧ wr.ownsRow (w.heap.size + 2) 75 10 (.slice (some ⟨g, 0, none⟩) N N) N (flat2 outCs os xs) ∧ wr.ownsRow (w.heap.size + 2) 95 11 (.slice (some ⟨h, 0, none⟩) M M) M (flat2 inCs is us) ∧
      Box wr b [.slice (some ⟨g, 0, none⟩) N N, .slice (some ⟨h, 0, none⟩) M M] ∧ Box wr (w.heap.size + 1) [.slice none 0 0, .slice none 0 0] ∧ Below w.heap.size w wr) (fun i _ => N - (intOf i).toNat)
    case atStart => exact ⟨0, vs, Nat.zero_le _, rfl, ⟨by rw [HVL.out, HN.out], fun j _ _ h => absurd h (by omega), fun _ j _ _ _ h => absurd h (by omega), fun _ _ => rfl⟩, HOG.out, HOH.out, HXB.out, HXR.out, HB2.out⟩
    case round =>
      obtain ⟨k, xs, hk, rfl, hmade, hog, hoh, hxb, hxr, hbel⟩ := hrel
      have HM1 := Lib.hid hmade
      have HG1 := Lib.hid hog
      have HH1 := Lib.hid hoh
      have HX1 := Lib.hid hxb
      have HR1 := Lib.hid hxr
      have HB1 := Lib.hid hbel
      by_cases hlt : k < N
      · have hko : k < os.length := by rw [HN.out]; exact hlt
        have hkv : k < vs.length := by rw [HVL.out]; exact hlt
        have hkx : xs[k]? = some vs[k] := by rw [hmade.2.2.2 k (Nat.le_refl _)]; exact List.getElem?_eq_getElem hkv
        have HKO := Lib.hid (List.getElem?_eq_getElem hko)
        have hpv := (HVP.out k _ _ (List.getElem?_eq_getElem hko) (List.getElem?_eq_getElem hkv)).below hbel
        have hsz := HO.out.2 _ (List.mem_map.2 ⟨_, List.getElem_mem hko, rfl⟩)
        have c5 := own_cell hog ((flat2_at outCs_len os xs k _ _ 5 hmade.1 (List.getElem?_eq_getElem hko) hkx (by omega)).trans rfl)
        have f5 := hog.frozenAt (k * 10 + 5)
        have b0 := hxb.cell (j := 0) rfl
        have zb := hxb.lt
        have zg := (hog.lt _ rfl).2
        have HKX := Lib.hid hkx
        clear hmade hog hoh hxb hxr hbel hkx
        generalize vs[k] = vk at *
        generalize os[k] = ok at *
        obtain ⟨A2, n2, c2, rfl⟩ : ∃ A2 n2 c2, vk = .slice A2 n2 c2 := by
          obtain ⟨_, _, ⟨A2, c2, e, _⟩, _⟩ := hpv
          exact ⟨A2, _, c2, e⟩
        have HPV := Lib.hid hpv
        have HSZ := Lib.hid hsz
        clear hpv hsz
        have CP := Lib.hid (fun (W : World) (hW : Below wr.heap.size wr W) => parts_any ok.parts (.slice A2 n2 c2) W ((HPV.out.more HB1.out.size).on hW) HSZ.out.1 HSZ.out.2)
        go_wp2_with fail
        go_region_law
          (first
            | (go_simp; refine (CP.out _ ((Below.refl _ _).drew)).mono ?_; rintro e w3 ⟨hb3', u, rfl, hu⟩
               have hb3 : Below wr.heap.size wr w3 := ((Below.refl _ _).drew).trans hb3'
               have hc3 := bfar wr.heap.size hb3 (Nat.le_refl _)
               have hf3 := blowf hb3 g (k * 10 + 5) zg
               have hz3 : wr.heap.size ≤ w3.heap.size := hb3.size
               obtain ⟨A3, n3, c3, rfl⟩ := partsV_form hu.reads
               go_simp))
        all_goals
          have HU3 := Lib.hid (show OwnParts w3 wr.heap.size (.slice A3 n3 c3) ok.parts from hu)
          have HB3 := Lib.hid hb3
          have HO3 := Lib.hid (own_on HG1.out hb3)
          have HH3 := Lib.hid (own_on HH1.out hb3)
          clear hc3 hf3 hz3 hb3 hb3' hu
          go_wp2_with fail
          go_roundw
          case rel =>
            have hlen : vs.length = os.length := by rw [HVL.out, HN.out]
            have h1 := HM1.out.step HB3.out HKO.out HU3.out HR1.out.lt HO3.out (by decide) (by decide) (k * 10 + 5) (.slice A3 n3 c3)
            have h2 := (HO3.out.stored (k * 10 + 5) (.slice A3 n3 c3)).1
            rw [flat2_set outCs_len os xs k ok ok _ (.slice A3 n3 c3) 5 _ HM1.out.1 HKO.out HKX.out (by omega) rfl, list_set_self HKO.out] at h2
            exact ⟨k + 1, _, by omega, by go_num, h1, h2, own_apart HH3.out (HO3.out.stored _ _).2 (far_type HH3.out HO3.out (by decide)), (HX1.out.on HB3.out).far HNE.out.1 _, (HR1.out.on HB3.out).far HNE.out.2.2.1 _, (HB1.out.trans (HB3.out.mono HB1.out.size)).setCell HGE.out.1 _⟩
          case measure => simp [intOf]; omega
      · have hkN : k = N := by omega
        subst hkN
        have HMO := Lib.hid (MadeUpto.many (show MadeUpto OutS.parts wr (w.heap.size + 2) os vs xs os.length by rw [HN.out]; exact hmade))
        have b1 := hxb.cell (j := 1) rfl
        obtain ⟨wo, rfl⟩ : ∃ wo : World, wo = wr := ⟨_, rfl⟩
        clear hmade hog hoh hxb hxr hbel
        go_wp2_with fail
        go_loopw [47] (fun i wr => ∃ (j : Nat) (ys : List Value), j ≤ M ∧ i = .int .i64 j ∧ MadeUpto InS.parts wr (w.heap.size + 2) is us ys j ∧ OwnMany OutS.parts wr (w.heap.size + 2) os xs ∧ wr.ownsRow (w.heap.size + 2) 75 10 (.slice (some ⟨g, 0, none⟩) k k) k (flat2 outCs os xs) ∧ wr.ownsRow (w.heap.size + 2) 95 11 (.slice (some ⟨h, 0, none⟩) M M) M (flat2 inCs is ys) ∧
          Box wr b [.slice (some ⟨g, 0, none⟩) k k, .slice (some ⟨h, 0, none⟩) M M] ∧ Box wr (w.heap.size + 1) [.slice none 0 0, .slice none 0 0] ∧ Below w.heap.size w wr ∧ ∀ x ∈ xs, ∀ (i : Nat) y, i < j → ys[i]? = some y → Apart x y) (fun i _ => M - (intOf i).toNat)
        case atStart => exact ⟨0, us, Nat.zero_le _, rfl, ⟨by rw [HUL.out, HM.out], fun j _ _ h => absurd h (by omega), fun _ j _ _ _ h => absurd h (by omega), fun _ _ => rfl⟩, HMO.out, HG1.out, HH1.out, HX1.out, HR1.out, HB1.out, fun _ _ _ _ h => absurd h (by omega)⟩
        clear HM1 HG1 HH1 HX1 HR1 HB1 HMO b1
        case round =>
          obtain ⟨j, ys, hj, rfl, hmade, hmo, hog, hoh, hxb, hxr, hbel, hcr⟩ := hrel
          have HCR := Lib.hid hcr
          clear hcr
          have HM1 := Lib.hid hmade
          have HMO := Lib.hid hmo
          have HG1 := Lib.hid hog
          have HH1 := Lib.hid hoh
          have HX1 := Lib.hid hxb
          have HR1 := Lib.hid hxr
          have HB1 := Lib.hid hbel
          by_cases hlt : j < M
          · have hko : j < is.length := by rw [HM.out]; exact hlt
            have hkv : j < us.length := by rw [HUL.out]; exact hlt
            have hkx : ys[j]? = some us[j] := by rw [hmade.2.2.2 j (Nat.le_refl _)]; exact List.getElem?_eq_getElem hkv
            have HKO := Lib.hid (List.getElem?_eq_getElem hko)
            have hpv := (HUP.out j _ _ (List.getElem?_eq_getElem hko) (List.getElem?_eq_getElem hkv)).below hbel
            have hsz := HI.out.2 _ (List.mem_map.2 ⟨_, List.getElem_mem hko, rfl⟩)
            have c5 := own_cell hoh ((flat2_at inCs_len is ys j _ _ 6 hmade.1 (List.getElem?_eq_getElem hko) hkx (by omega)).trans rfl)
            have f5 := hoh.frozenAt (j * 11 + 6)
            have b0 := hxb.cell (j := 1) rfl
            have zb := hxb.lt
            have zg := (hoh.lt _ rfl).2
            have HKX := Lib.hid hkx
            clear hmade hmo hog hoh hxb hxr hbel hkx
            generalize us[j] = vk at *
            generalize is[j] = ok at *
            obtain ⟨A2, n2, c2, rfl⟩ : ∃ A2 n2 c2, vk = .slice A2 n2 c2 := by
              obtain ⟨_, _, ⟨A2, c2, e, _⟩, _⟩ := hpv
              exact ⟨A2, _, c2, e⟩
            have HPV := Lib.hid hpv
            have HSZ := Lib.hid hsz
            clear hpv hsz
            have CP := Lib.hid (fun (W : World) (hW : Below wr.heap.size wr W) => parts_any ok.parts (.slice A2 n2 c2) W ((HPV.out.more HB1.out.size).on hW) HSZ.out.1 HSZ.out.2)
            go_wp2_with fail
            go_region_law
              (first
                | (go_simp; refine (CP.out _ ((Below.refl _ _).drew)).mono ?_; rintro e w3 ⟨hb3', u, rfl, hu⟩
                   have hb3 : Below wr.heap.size wr w3 := ((Below.refl _ _).drew).trans hb3'
                   have hc3 := bfar wr.heap.size hb3 (Nat.le_refl _)
                   have hf3 := blowf hb3 h (j * 11 + 6) zg
                   have hz3 : wr.heap.size ≤ w3.heap.size := hb3.size
                   obtain ⟨A3, n3, c3, rfl⟩ := partsV_form hu.reads
                   go_simp))
            all_goals
              have HU3 := Lib.hid (show OwnParts w3 wr.heap.size (.slice A3 n3 c3) ok.parts from hu)
              have HB3 := Lib.hid (show Below wr.heap.size wr w3 from hb3)
              have HO3 := Lib.hid (own_on HG1.out hb3)
              have HH3 := Lib.hid (own_on HH1.out hb3)
              clear hc3 hf3 hz3 hb3 hb3' hu
              go_wp2_with fail
              go_roundw
              case rel =>
                have hlen : us.length = is.length := by rw [HUL.out, HM.out]
                have h1 := HM1.out.step HB3.out HKO.out HU3.out HR1.out.lt HH3.out (by decide) (by decide) (j * 11 + 6) (.slice A3 n3 c3)
                have h2 := (HH3.out.stored (j * 11 + 6) (.slice A3 n3 c3)).1
                rw [flat2_set inCs_len is ys j ok ok _ (.slice A3 n3 c3) 6 _ HM1.out.1 HKO.out HKX.out (by omega) rfl, list_set_self HKO.out] at h2
                exact ⟨j + 1, _, by omega, by go_num, h1, (HMO.out.on HB3.out).store HH3.out (by decide) (by decide) _ _, own_apart HO3.out (HH3.out.stored _ _).2 (far_type HO3.out HH3.out (by decide)), h2, (HX1.out.on HB3.out).far HNE.out.2.1 _, (HR1.out.on HB3.out).far HNE.out.2.2.2 _, (HB1.out.trans (HB3.out.mono HB1.out.size)).setCell HGE.out.2 _, fun x hx i y hi hy => by
                  by_cases hij : i = j
                  · subst hij
                    rw [List.getElem?_set_self (by rw [HM1.out.1, HM.out]; exact hlt)] at hy
                    obtain rfl := Option.some.inj hy
                    obtain ⟨q, hq, rfl⟩ := List.getElem_of_mem hx
                    have hqo : q < os.length := by rw [← HMO.out.1]; exact hq
                    obtain ⟨_, _, k2, _⟩ := HMO.out.2.1 q _ _ (List.getElem?_eq_getElem hqo) (List.getElem?_eq_getElem hq)
                    obtain ⟨_, _, k3, _⟩ := HU3.out
                    exact Apart.of_base k2 k3 (Nat.le_refl _)
                  · rw [List.getElem?_set_ne (Ne.symm hij)] at hy
                    exact HCR.out x hx i y (by omega) hy⟩
              case measure => simp [intOf]; omega
          · have hjM : j = M := by omega
            subst hjM
            have HMI := Lib.hid (MadeUpto.many (show MadeUpto InS.parts wr (w.heap.size + 2) is us ys is.length by rw [HM.out]; exact hmade))
            have b0 := hxb.cell (j := 0) rfl
            have b1 := hxb.cell (j := 1) rfl
            have r0' := hxr.cell (j := 0) rfl
            have r1' := hxr.cell (j := 1) rfl
            have rf0 := hxr.free 0
            have rf1 := hxr.free 1
            have zb := hxb.lt
            have zr := hxr.lt
            clear hmade hmo hog hoh hxb hxr hbel
            go_wp2_with fail
            refine bodyPost_ret (res_tr rfl _ _ (w.heap.size + 1) (.slice (some ⟨g, 0, none⟩) k k) (.slice (some ⟨h, 0, none⟩) j j) rfl ?_) rfl (HQ.out _ _ ⟨?_, g, h, xs, ys, rfl, ?_, ?_, ?_, ?_, ?_⟩)
            · exact HR1.out.put [.slice (some ⟨g, 0, none⟩) k k, .slice (some ⟨h, 0, none⟩) j j] rfl
            · exact below_puts (b := w.heap.size + 1) (Nat.le_succ _) 0 [.slice (some ⟨g, 0, none⟩) k k, .slice (some ⟨h, 0, none⟩) j j] HB1.out
            · exact own_base (own_puts HG1.out (b := w.heap.size + 1) (fun g' hg' => by have := (HG1.out.lt g' hg').1; omega) 0 [.slice (some ⟨g, 0, none⟩) k k, .slice (some ⟨h, 0, none⟩) j j]) (by omega)
            · exact OwnMany.low ((HMO.out.far (Nat.lt_succ_self _) 0 _).far (Nat.lt_succ_self _) 1 _) (by omega)
            · exact own_base (own_puts HH1.out (b := w.heap.size + 1) (fun g' hg' => by have := (HH1.out.lt g' hg').1; omega) 0 [.slice (some ⟨g, 0, none⟩) k k, .slice (some ⟨h, 0, none⟩) j j]) (by omega)
            · exact OwnMany.low ((HMI.out.far (Nat.lt_succ_self _) 0 _).far (Nat.lt_succ_self _) 1 _) (by omega)
            · intro x hx y hy
              obtain ⟨i, hi, rfl⟩ := List.getElem_of_mem hy
              exact HCR.out x hx i _ (by rw [HMI.out.1, HM.out] at hi; exact hi) (List.getElem?_eq_getElem hi)
theorem clone_any (os : List OutS) (is : List InS) (v u : Value) (w : World) (hv : RowV outCs 10 OutS.parts w w.heap.size v os) (hu : RowV inCs 11 InS.parts w w.heap.size u is) (ho : Sized (os.map OutS.parts)) (hi : Sized (is.map InS.parts)) :
    Calls Try.prog 43 #[.agg #[v, u]] w (ClonePost os is w) :=
  (clone_any2 os is v u w hv hu ho hi).mono fun e w' h => by
    obtain ⟨h1, g, h', xs, ys, h2, h3, h4, h5, h6, _⟩ := h
    exact ⟨h1, g, h', h2, ⟨xs, h3, h4⟩, ⟨ys, h5, h6⟩⟩
end Go.Proofs.Ytkpjinkkjbljkaa
