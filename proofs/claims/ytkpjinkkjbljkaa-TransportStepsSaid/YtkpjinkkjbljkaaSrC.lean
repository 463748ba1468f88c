/- The reference: Acked, Acks, Again. -/
import Derived.Test.YtkpjinkkjbljkaaSrA
import Derived.Test.YtkpjinkkjbljkaaTaW
import Derived.Deep.RegionHeld3
namespace Go.Proofs.Ytkpjinkkjbljkaa
open Go.RowKit

/-! ### A struct stored into a row of the call's own -/
theorem own_setCells {base size n g c : Nat} {e : TypeId} : ∀ (ds : List Value) (w : World) (xs : List Value) (j : Nat), w.ownsRow base e size (.slice (some ⟨g, 0, none⟩) n c) n xs → j + ds.length ≤ xs.length →
    (w.setCells g j ds).ownsRow base e size (.slice (some ⟨g, 0, none⟩) n c) n (xs.take j ++ ds ++ xs.drop (j + ds.length))
  | [], w, xs, j, h, _ => by
    have h1 : xs.take j ++ [] ++ xs.drop (j + ([] : List Value).length) = xs := by simp
    rw [h1]
    exact h
  | d :: ds, w, xs, j, h, hj => by
    have hj' : j < xs.length := by simp at hj; omega
    have h2 := (h.stored j d).1
    have h3 := own_setCells ds (w.setCell ⟨g, j, none⟩ d) (xs.set j d) (j + 1) h2 (by rw [List.length_set]; simp at hj; omega)
    have e1 : (xs.set j d).take (j + 1) ++ ds ++ (xs.set j d).drop (j + 1 + ds.length) = xs.take j ++ (d :: ds) ++ xs.drop (j + (d :: ds).length) := by
      rw [List.take_set, List.take_succ_eq_append_getElem hj', List.drop_set_of_lt (by omega)]
      have e2 : (List.take j xs ++ [xs[j]]).set j d = List.take j xs ++ [d] := by
        rw [List.set_append_right _ _ (by rw [List.length_take]; omega)]
        simp [List.length_take, Nat.min_eq_left (Nat.le_of_lt hj')]
      rw [e2, List.length_cons, show j + 1 + ds.length = j + (ds.length + 1) by omega]
      simp
    rw [e1] at h3
    exact h3
theorem flat2_put {α β : Type} {f : α → β → List Value} {m : Nat} (hf : ∀ o v, (f o v).length = m) (os : List α) (vs : List β) (hl : vs.length = os.length) {k : Nat} (hk : k < os.length) (o : α) (v : β) :
    (flat2 f os vs).take (k * m) ++ f o v ++ (flat2 f os vs).drop (k * m + (f o v).length) = flat2 f (os.set k o) (vs.set k v) := by
  rw [hf, show k * m + m = (k + 1) * m by rw [Nat.succ_mul], flat2_take hf os vs k hl (by omega), flat2_drop hf os vs (k + 1) hl (by omega), List.set_eq_take_append_cons_drop, List.set_eq_take_append_cons_drop, if_pos hk, if_pos (by omega),
    flat2_append _ _ _ _ (by rw [List.length_take, List.length_take, hl]), flat2_cons, List.append_assoc]
theorem own_put {α : Type} {f : α → Value → List Value} {m : Nat} (hf : ∀ o v, (f o v).length = m) {w : World} {base g c : Nat} {e : TypeId} {os : List α} {vs : List Value} (hl : vs.length = os.length) (h : w.ownsRow base e m (.slice (some ⟨g, 0, none⟩) os.length c) os.length (flat2 f os vs)) {k : Nat} (hk : k < os.length) (o : α) (v : Value) :
    (w.setCells g (k * m) (f o v)).ownsRow base e m (.slice (some ⟨g, 0, none⟩) os.length c) os.length (flat2 f (os.set k o) (vs.set k v)) := by
  have h1 := own_setCells (f o v) w (flat2 f os vs) (k * m) h (by rw [hf, flat2_len hf os vs hl, ← Nat.succ_mul]; exact Nat.mul_le_mul_right _ (by omega))
  rwa [flat2_put hf os vs hl hk] at h1

theorem Sl.toP {w : World} {B size n : Nat} {v : Value} {cs : List Value} (h : Sl w B size v n cs) : SlP w (fun b => b < B) size v n cs := by
  obtain ⟨A, c, rfl, h1, h2, h3, h4⟩ := h
  refine ⟨A, c, rfl, h1, h2, h3, ?_⟩
  rcases h4 with h4 | ⟨b, off, rfl, hb, hc⟩
  · exact .inl h4
  · exact .inr ⟨b, off, rfl, hb, hc⟩
theorem partsV_P {w : World} {B : Nat} {v : Value} {ps : List (List UInt8)} (h : PartsV w B v ps) : PartsP w (fun b => b < B) v ps := by
  obtain ⟨us, h1, h2, h3⟩ := h
  exact ⟨us, h1, h2.toP, fun k u p hu hp => Sl.toP (h3.2 k u p hu hp)⟩
theorem rowV_P {α : Type} {f : α → Value → List Value} {m : Nat} {pf : α → List (List UInt8)} {w : World} {B : Nat} {v : Value} {os : List α} (h : RowV f m pf w B v os) : RowP f m pf w (fun b => b < B) v os := by
  obtain ⟨vs, h1, h2, h3⟩ := h
  exact ⟨vs, h1, h2.toP, fun k o u ho hu => partsV_P (h3 k o u ho hu)⟩
theorem rowP_far {α : Type} {f : α → Value → List Value} {m : Nat} {pf : α → List (List UInt8)} {w : World} {P : Nat → Prop} {v : Value} {os : List α} {c : Nat} (h : RowP f m pf w P v os) (hc : ∀ b, P b → b ≠ c) (j : Nat) (x : Value) : RowP f m pf (w.setCell ⟨c, j, none⟩ x) P v os :=
  h.keep fun b o hb => by
    unfold World.cell?
    rw [heap_setCell_other _ ⟨c, j, none⟩ b x (hc b hb)]
/-- What the reference's Acked leaves. -/
def RAckedPost (is : List InS) (r : List OutS × Bool) (w : World) (e : Ending) (w' : World) : Prop :=
  Below w.heap.size w w' ∧ ∃ v u, e = .returned (.tuple #[.agg #[v, u], .bool r.2]) ∧ RowV outCs 10 OutS.parts w' w'.heap.size v r.1 ∧ RowV inCs 11 InS.parts w' w'.heap.size u is
theorem full_and {a n : Nat} (h : a < 2 ^ n) : a &&& full n = a := by
  unfold full
  rw [Nat.and_two_pow_sub_one_eq_mod, Nat.mod_eq_of_lt h]
theorem acked_lt {p : Low} {o : OutS} (h : o.ackd < 2 ^ o.parts.length) : ackedN p o < 2 ^ o.parts.length := by
  unfold ackedN
  refine Nat.or_lt_two_pow h ?_
  refine Nat.lt_of_le_of_lt Nat.and_le_right ?_
  unfold full
  have := Nat.two_pow_pos o.parts.length
  omega
set_option maxRecDepth 100000 in
set_option maxHeartbeats 8000000 in
theorem racked_any (os : List OutS) (is : List InS) (src : Nat) (p : Low) (bl : List UInt8) (hbk : p.blk < 4294967296) (v u bv : Value) (w : World) (hv : RowV outCs 10 OutS.parts w w.heap.size v os) (hu : RowV inCs 11 InS.parts w w.heap.size u is) (hbv : BS w w.heap.size bv bl) (ho : os.length ≤ 65536)
    (hack : ∀ o ∈ os, o.ackd < 2 ^ o.parts.length ∧ o.parts.length ≤ 32) :
    Calls Try.prog 52 #[.agg #[v, u], .int .u16 (src : Int), lowV p bv] w (RAckedPost is (ackedT os src p bl.length) w) := by
  obtain ⟨A1, c1, rfl⟩ := rowV_form hv
  obtain ⟨A2, c2, rfl⟩ := rowV_form hu
  obtain ⟨A, c, rfl, _⟩ := id hbv
  have HV := Lib.hid hv
  have HU := Lib.hid hu
  have HACK := Lib.hid hack
  have CK := Lib.hid (rtcheck_any p A bl.length c)
  have HB := Lib.hid (fun h => ackedT_bad (os := os) (src := src) (p := p) (n := bl.length) h)
  have HNO := Lib.hid (fun h => ackedT_none (os := os) (src := src) (p := p) (n := bl.length) h)
  have HYE := Lib.hid (fun i o h1 h2 h3 h4 => ackedT_yes (os := os) (src := src) (p := p) (n := bl.length) (i := i) (o := o) h1 h2 h3 h4)
  have HPA := Lib.hid (fun i o h1 h2 h3 h4 => ackedT_part (os := os) (src := src) (p := p) (n := bl.length) (i := i) (o := o) h1 h2 h3 h4)
  generalize hr : ackedT os src p bl.length = r at *
  have HQ := Lib.hid (show ∀ (e : Ending) (w' : World) (v u : Value), e = .returned (.tuple #[.agg #[v, u], .bool r.2]) → Below w.heap.size w w' → RowV outCs 10 OutS.parts w' w'.heap.size v r.1 → RowV inCs 11 InS.parts w' w'.heap.size u is → RAckedPost is r w e w' from fun e w' v u h1 h2 h3 h4 => ⟨h2, v, u, h1, h3, h4⟩)
  generalize RAckedPost is r w = Q at *
  have HIA := Lib.hid (show isA p = (p.ctl && p.op == 0) from rfl)
  generalize hE : chkL p bl.length = E at *
  generalize hI : isA p = ia at *
  generalize hN : os.length = N at *
  generalize hM : is.length = M at *
  generalize bl.length = n at *
  have HN := Lib.hid hN
  clear hr hE hI hN hM hv hu hbv hack
  obtain ⟨ct, sg, ap, ze, ix, la, op, bk, fr⟩ := p
  dsimp only at hbk HIA
  go_enter Try.func52, Try.ntmps52
  go_upto_region 1 with fail
  obtain ⟨W, hW⟩ : ∃ W, W = ((w.alloc (.cells #[.slice A1 N c1, .slice A2 M c2] 47)).alloc (.cells #[.bool ct, .bool sg, .bool ap, .int .i64 ze, .int .i64 ix, .int .i64 la, .int .i64 op, .int .u32 (bk : Int), .bool fr, .slice A n c] 25)).alloc (.cells #[.slice none 0 0, .slice none 0 0] 47) := ⟨_, rfl⟩
  have hA : Below w.heap.size w W := by rw [hW]; exact al3 _ _ _ _
  have hb0 : Box W w.heap.size [.slice A1 N c1, .slice A2 M c2] := by rw [hW]; exact ((Box.new _ _ _).alloc _).alloc _
  have hb1 : Box W (w.heap.size + 1) (lowCs ⟨ct, sg, ap, ze, ix, la, op, bk, fr⟩ (.slice A n c)) := ⟨25, by rw [hW, heap_al, if_neg (by simp), heap_al, if_pos (by simp)]⟩
  have hb2 : Box W (w.heap.size + 1 + 1) [.slice none 0 0, .slice none 0 0] := ⟨47, by rw [hW, heap_al, if_pos (by simp)]⟩
  have HZ := Lib.hid (show W.heap.size = w.heap.size + 3 by rw [hW]; simp)
  rw [← hW]
  clear hW
  have HA := Lib.hid hA
  have H0 := Lib.hid hb0
  have H1 := Lib.hid hb1
  have H2 := Lib.hid hb2
  obtain ⟨l0, l1, l2, l3, l4, l5, l6, l7, l8, l9⟩ := low_box hb1
  dsimp only at l0 l1 l2 l3 l4 l5 l6 l7 l8
  have z1 := hb1.lt
  clear hA hb0 hb1 hb2
-- HEAD
  by_cases hE0 : E = 0
  case neg =>
    have hR := HB.out (.inr hE0)
    subst hR
    have q1 : (E != 0) = true := ne_bool hE0
    clear hE0
    go_wp2_with fail
    refine (CK.out _).mono ?_
    rintro e w3 ⟨rfl, hb3⟩
    have HB3 := Lib.hid (HA.out.trans (hb3.mono HA.out.size))
    have K0 := Lib.hid (H0.out.on hb3)
    have K1 := Lib.hid (H1.out.on hb3)
    have K2 := Lib.hid (H2.out.on hb3)
    have KZ := Lib.hid (show w.heap.size + 3 ≤ w3.heap.size from Nat.le_trans (Nat.le_of_eq HZ.out.symm) hb3.size)
    have m0 := K1.out.cell (j := 0) rfl
    have m6 := K1.out.cell (j := 6) rfl
    have y1 := K1.out.lt
    have p0 := K0.out.cell (j := 0) rfl
    have p1 := K0.out.cell (j := 1) rfl
    have r0 := K2.out.cell (j := 0) rfl
    have r1 := K2.out.cell (j := 1) rfl
    have f0 := K2.out.free 0
    have f1 := K2.out.free 1
    have z0 := K0.out.lt
    have z2 := K2.out.lt
    dsimp only at m0 m6
    clear hb3 l0 l1 l2 l3 l4 l5 l6 l7 l8 l9 z1 HA H0 H1 H2 HZ
    go_wp2_with fail
    refine bodyPost_ret (res_tr2 rfl _ _ (w.heap.size + 1 + 1) (.slice A1 N c1) (.slice A2 M c2) rfl ?_) rfl (HQ.out _ _ _ _ rfl ?_ ?_ ?_)
    · exact K2.out.put [.slice A1 N c1, .slice A2 M c2] rfl
    · exact below_puts (b := w.heap.size + 1 + 1) (by omega) 0 [.slice A1 N c1, .slice A2 M c2] HB3.out
    · exact HV.out.on (below_puts (b := w.heap.size + 1 + 1) (by omega) 0 [.slice A1 N c1, .slice A2 M c2] HB3.out)
    · exact HU.out.on (below_puts (b := w.heap.size + 1 + 1) (by omega) 0 [.slice A1 N c1, .slice A2 M c2] HB3.out)
  have q1 : (E != 0) = false := by rw [hE0]; rfl
  rcases ct with _ | _
  case false =>
    have hR := HB.out (.inl (by rw [HIA.out]; rfl))
    subst hR
    clear hE0
    go_wp2_with fail
    refine (CK.out _).mono ?_
    rintro e w3 ⟨rfl, hb3⟩
    have HB3 := Lib.hid (HA.out.trans (hb3.mono HA.out.size))
    have K0 := Lib.hid (H0.out.on hb3)
    have K1 := Lib.hid (H1.out.on hb3)
    have K2 := Lib.hid (H2.out.on hb3)
    have KZ := Lib.hid (show w.heap.size + 3 ≤ w3.heap.size from Nat.le_trans (Nat.le_of_eq HZ.out.symm) hb3.size)
    have m0 := K1.out.cell (j := 0) rfl
    have m6 := K1.out.cell (j := 6) rfl
    have y1 := K1.out.lt
    have p0 := K0.out.cell (j := 0) rfl
    have p1 := K0.out.cell (j := 1) rfl
    have r0 := K2.out.cell (j := 0) rfl
    have r1 := K2.out.cell (j := 1) rfl
    have f0 := K2.out.free 0
    have f1 := K2.out.free 1
    have z0 := K0.out.lt
    have z2 := K2.out.lt
    dsimp only at m0 m6
    clear hb3 l0 l1 l2 l3 l4 l5 l6 l7 l8 l9 z1 HA H0 H1 H2 HZ
    go_wp2_with fail
    refine bodyPost_ret (res_tr2 rfl _ _ (w.heap.size + 1 + 1) (.slice A1 N c1) (.slice A2 M c2) rfl ?_) rfl (HQ.out _ _ _ _ rfl ?_ ?_ ?_)
    · exact K2.out.put [.slice A1 N c1, .slice A2 M c2] rfl
    · exact below_puts (b := w.heap.size + 1 + 1) (by omega) 0 [.slice A1 N c1, .slice A2 M c2] HB3.out
    · exact HV.out.on (below_puts (b := w.heap.size + 1 + 1) (by omega) 0 [.slice A1 N c1, .slice A2 M c2] HB3.out)
    · exact HU.out.on (below_puts (b := w.heap.size + 1 + 1) (by omega) 0 [.slice A1 N c1, .slice A2 M c2] HB3.out)
  by_cases hop : op = 0
  case neg =>
    have q2 : (op != 0) = true := ne_bool hop
    have hR := HB.out (.inl (by rw [HIA.out]; simpa using hop))
    subst hR
    clear hE0 hop
    go_wp2_with fail
    refine (CK.out _).mono ?_
    rintro e w3 ⟨rfl, hb3⟩
    have HB3 := Lib.hid (HA.out.trans (hb3.mono HA.out.size))
    have K0 := Lib.hid (H0.out.on hb3)
    have K1 := Lib.hid (H1.out.on hb3)
    have K2 := Lib.hid (H2.out.on hb3)
    have KZ := Lib.hid (show w.heap.size + 3 ≤ w3.heap.size from Nat.le_trans (Nat.le_of_eq HZ.out.symm) hb3.size)
    have m0 := K1.out.cell (j := 0) rfl
    have m6 := K1.out.cell (j := 6) rfl
    have y1 := K1.out.lt
    have p0 := K0.out.cell (j := 0) rfl
    have p1 := K0.out.cell (j := 1) rfl
    have r0 := K2.out.cell (j := 0) rfl
    have r1 := K2.out.cell (j := 1) rfl
    have f0 := K2.out.free 0
    have f1 := K2.out.free 1
    have z0 := K0.out.lt
    have z2 := K2.out.lt
    dsimp only at m0 m6
    clear hb3 l0 l1 l2 l3 l4 l5 l6 l7 l8 l9 z1 HA H0 H1 H2 HZ
    go_wp2_with fail
    refine bodyPost_ret (res_tr2 rfl _ _ (w.heap.size + 1 + 1) (.slice A1 N c1) (.slice A2 M c2) rfl ?_) rfl (HQ.out _ _ _ _ rfl ?_ ?_ ?_)
    · exact K2.out.put [.slice A1 N c1, .slice A2 M c2] rfl
    · exact below_puts (b := w.heap.size + 1 + 1) (by omega) 0 [.slice A1 N c1, .slice A2 M c2] HB3.out
    · exact HV.out.on (below_puts (b := w.heap.size + 1 + 1) (by omega) 0 [.slice A1 N c1, .slice A2 M c2] HB3.out)
    · exact HU.out.on (below_puts (b := w.heap.size + 1 + 1) (by omega) 0 [.slice A1 N c1, .slice A2 M c2] HB3.out)
  subst hop
  have hia : ia = true := by rw [HIA.out]; rfl
  go_wp2_with fail
  refine (CK.out _).mono ?_
  rintro e w3 ⟨rfl, hb3⟩
  have HB3 := Lib.hid (HA.out.trans (hb3.mono HA.out.size))
  have K0 := Lib.hid (H0.out.on hb3)
  have K1 := Lib.hid (H1.out.on hb3)
  have K2 := Lib.hid (H2.out.on hb3)
  have KZ := Lib.hid (show w.heap.size + 3 ≤ w3.heap.size from Nat.le_trans (Nat.le_of_eq HZ.out.symm) hb3.size)
  have m0 := K1.out.cell (j := 0) rfl
  have m6 := K1.out.cell (j := 6) rfl
  have y1 := K1.out.lt
  have p0 := K0.out.cell (j := 0) rfl
  have p1 := K0.out.cell (j := 1) rfl
  have r0 := K2.out.cell (j := 0) rfl
  have r1 := K2.out.cell (j := 1) rfl
  have f0 := K2.out.free 0
  have f1 := K2.out.free 1
  have z0 := K0.out.lt
  have z2 := K2.out.lt
  dsimp only at m0 m6
  clear hb3 l0 l1 l2 l3 l4 l5 l6 l7 l8 l9 z1 HA H0 H1 H2 HZ
  have HNB := Lib.hid (show ¬ (ia = false ∨ E ≠ 0) by rw [hia, hE0]; simp)
  have m3 := K1.out.cell (j := 3) rfl
  have m7 := K1.out.cell (j := 7) rfl
  have m8 := K1.out.cell (j := 8) rfl
  dsimp only at m3 m7 m8
  go_wp2_with fail
  go_loopw [8] (fun i wr => ∃ k : Nat, k ≤ N ∧ i = .int .i64 k ∧ (os.take k).findIdx? (fitB src ⟨true, sg, ap, ze, ix, la, 0, bk, fr⟩) = none ∧ Below w3.heap.size w3 wr) (fun i _ => N - (intOf i).toNat)
  case atStart => exact ⟨0, Nat.zero_le _, rfl, rfl, Below.refl _ _⟩
  clear m0 m6 y1 p0 p1 r0 r1 f0 f1 z0 z2 m3 m7 m8
  case round =>
    obtain ⟨k, hk, rfl, hF, hbel⟩ := hrel
    have HF := Lib.hid hF
    have HBE := Lib.hid hbel
    have HBW := Lib.hid (show Below w.heap.size w wr from HB3.out.trans (hbel.mono HB3.out.size))
    have hz3 := KZ.out
    have hsz := hbel.size
    have p0 := (K0.out.on hbel).cell (j := 0) rfl
    have p1 := (K0.out.on hbel).cell (j := 1) rfl
    have z0 := (K0.out.on hbel).lt
    have m3 := (K1.out.on hbel).cell (j := 3) rfl
    have m7 := (K1.out.on hbel).cell (j := 7) rfl
    have m8 := (K1.out.on hbel).cell (j := 8) rfl
    have z1 := (K1.out.on hbel).lt
    dsimp only at m3 m7 m8
    by_cases hlt : k < N
    · have hki : k < os.length := by rw [HN.out]; exact hlt
      have hek := List.getElem?_eq_getElem hki
      have hak := HACK.out _ (List.getElem_mem hki)
      obtain ⟨b1, o1, cc, u1, hform, hB, hcell, hpv⟩ := out_cells HV.out hek
      injection hform with hf1 hf2 hf3
      clear hf2
      subst hf1 hf3
      generalize os[k] = x at *
      have HX := Lib.hid hek
      obtain ⟨A7, c7, rfl⟩ : ∃ A7 c7, u1 = .slice A7 x.parts.length c7 := by
        obtain ⟨_, _, ⟨A, c, h, _⟩, _⟩ := id hpv
        exact ⟨A, c, h⟩
      have HPV := Lib.hid hpv
      have HFT := Lib.hid (show fitB src ⟨true, sg, ap, ze, ix, la, 0, bk, fr⟩ x = (isNode x.dst && decide (((x.zero % 8192 : Nat) : Int) = ze) && (decide (x.dst = src) || fr)) from rfl)
      have HAN := Lib.hid (show ackedN ⟨true, sg, ap, ze, ix, la, 0, bk, fr⟩ x = x.ackd ||| (bk &&& full x.parts.length) from rfl)
      have HALT := Lib.hid (acked_lt (p := ⟨true, sg, ap, ze, ix, la, 0, bk, fr⟩) hak.1)
      generalize hft : fitB src ⟨true, sg, ap, ze, ix, la, 0, bk, fr⟩ x = ft at *
      have HFV := Lib.hid hft
      generalize han : ackedN ⟨true, sg, ap, ze, ix, la, 0, bk, fr⟩ x = an at *
      have HAV := Lib.hid han
      obtain ⟨x0, x1, x2, x3, x4, x5, x6, x7, x8, x9⟩ := x
      dsimp only at HFT HAN hak HALT
      have d0 : wr.cell? ⟨b1, o1 + k * 10, none⟩ = some (.int .u16 (x0 : Int)) := (HBW.out.cell (p := ⟨b1, _, none⟩) hB).trans (hcell 0 _ rfl)
      have d1 : wr.cell? ⟨b1, o1 + k * 10 + 1, none⟩ = some (.int .u16 (x1 : Int)) := (HBW.out.cell (p := ⟨b1, _, none⟩) hB).trans (hcell 1 _ rfl)
      have d2 : wr.cell? ⟨b1, o1 + k * 10 + 2, none⟩ = some (.bool x2) := (HBW.out.cell (p := ⟨b1, _, none⟩) hB).trans (hcell 2 _ rfl)
      have d3 : wr.cell? ⟨b1, o1 + k * 10 + 3, none⟩ = some (.int .u32 (x3 : Int)) := (HBW.out.cell (p := ⟨b1, _, none⟩) hB).trans (hcell 3 _ rfl)
      have d4 : wr.cell? ⟨b1, o1 + k * 10 + 4, none⟩ = some (.int .u32 (x4 : Int)) := (HBW.out.cell (p := ⟨b1, _, none⟩) hB).trans (hcell 4 _ rfl)
      have d5 : wr.cell? ⟨b1, o1 + k * 10 + 5, none⟩ = some (.slice A7 x5.length c7) := (HBW.out.cell (p := ⟨b1, _, none⟩) hB).trans (hcell 5 _ rfl)
      have d6 : wr.cell? ⟨b1, o1 + k * 10 + 6, none⟩ = some (.int .u32 (x6 : Int)) := (HBW.out.cell (p := ⟨b1, _, none⟩) hB).trans (hcell 6 _ rfl)
      have d7 : wr.cell? ⟨b1, o1 + k * 10 + 7, none⟩ = some (.int .i64 x7) := (HBW.out.cell (p := ⟨b1, _, none⟩) hB).trans (hcell 7 _ rfl)
      have d8 : wr.cell? ⟨b1, o1 + k * 10 + 8, none⟩ = some (.int .i64 x8) := (HBW.out.cell (p := ⟨b1, _, none⟩) hB).trans (hcell 8 _ rfl)
      have d9 : wr.cell? ⟨b1, o1 + k * 10 + 9, none⟩ = some (.int .i64 x9) := (HBW.out.cell (p := ⟨b1, _, none⟩) hB).trans (hcell 9 _ rfl)
      have hbz : b1 < wr.heap.size := by omega
      have CN := Lib.hid (rnode_any x0)
      have CF := Lib.hid (fun W => rfull_any x5.length hak.2 W)
      have hp5 : 2 ^ x5.length ≤ 4294967296 := by
        have h1 := Nat.pow_le_pow_right (show 0 < 2 by omega) hak.2
        have h2 : 2 ^ 32 = 4294967296 := by decide
        omega
      have hfl : full x5.length < 4294967296 := by
        unfold full
        have := Nat.two_pow_pos x5.length
        omega
      have hand : bits .and .u32 (bk : Int) ((full x5.length : Nat) : Int) = ((bk &&& full x5.length : Nat) : Int) := u32_and_nat _ _ hbk hfl
      have hor : bits .or .u32 (x6 : Int) ((bk &&& full x5.length : Nat) : Int) = ((an : Nat) : Int) := by rw [HAN.out]; exact u32_or_nat _ _ (by have := hak.1; omega) (Nat.lt_of_le_of_lt Nat.and_le_left hbk)
      have hand2 : bits .and .u32 (an : Int) ((full x5.length : Nat) : Int) = ((an : Nat) : Int) := by rw [u32_and_nat _ _ (by have := HALT.out; omega) hfl, full_and HALT.out]
      have ht : ((x3 : Int).tmod 8192) = ((x3 % 8192 : Nat) : Int) := by rw [Int.tmod_eq_emod_of_nonneg (by omega)]; omega
      have hw2 : IntKind.i64.wrap (((x3 % 8192 : Nat) : Int)) = ((x3 % 8192 : Nat) : Int) := IntWalk.i64_in _ (by omega)
      generalize x3 % 8192 = zz at *
      generalize isNode x0 = nd at *
      clear hF hbel hcell hpv hek hft han hak hp5
      go_upto_region 7 with fail
      obtain ⟨Wx, hWx⟩ : ∃ Wx, Wx = wr.alloc (.cells #[.int .u16 (x0 : Int), .int .u16 (x1 : Int), .bool x2, .int .u32 (x3 : Int), .int .u32 (x4 : Int), .slice A7 x5.length c7, .int .u32 (x6 : Int), .int .i64 x7, .int .i64 x8, .int .i64 x9] 75) := ⟨_, rfl⟩
      have HBX := Lib.hid (show Below wr.heap.size wr Wx by rw [hWx]; exact al1 _ _)
      have HOX := Lib.hid (show Box Wx wr.heap.size (outCs ⟨x0, x1, x2, x3, x4, x5, x6, x7, x8, x9⟩ (.slice A7 x5.length c7)) by rw [hWx]; exact Box.new _ _ _)
      rw [← hWx]
      clear hWx
      have g0 := HOX.out.cell (j := 0) rfl
      have g3 := HOX.out.cell (j := 3) rfl
      have gz := HOX.out.lt
      have n3 := (HBX.out.cell (p := ⟨w.heap.size + 1, 3, none⟩) z1).trans m3
      have n8 := (HBX.out.cell (p := ⟨w.heap.size + 1, 8, none⟩) z1).trans m8
      have nz : w.heap.size + 1 < Wx.heap.size := by have := HBX.out.size; omega
      dsimp only at g0 g3
      obtain ⟨wo, rfl⟩ : ∃ wo : World, wo = Wx := ⟨_, rfl⟩
      go_cut [60] (fun t wx => t = .bool (!ft) ∧ wx = wo)
      case first =>
        rcases nd with _ | _
        · go_wp2_with (first | (go_at_call 61; refine (CN.out _).mono ?_; rintro e w4 ⟨rfl, rfl⟩) | fail)
          go_meet
          exact ⟨by rw [HFT.out]; rfl, rfl⟩
        · by_cases hz : (zz : Int) = ze
          · subst hz
            have hz3 : ((zz : Int) != (zz : Int)) = false := by simp
            by_cases hs : x0 = src
            · subst hs
              have hs3 : ((x0 : Int) != (x0 : Int)) = false := by simp
              go_wp2_with (first | (go_at_call 61; refine (CN.out _).mono ?_; rintro e w4 ⟨rfl, rfl⟩) | fail)
              go_meet
              exact ⟨by rw [HFT.out]; simp, rfl⟩
            · have hs2 : ((x0 : Int) != (src : Int)) = true := ne_bool fun h => hs (by omega)
              rcases fr with _ | _
              · go_wp2_with (first | (go_at_call 61; refine (CN.out _).mono ?_; rintro e w4 ⟨rfl, rfl⟩) | fail)
                go_meet
                exact ⟨by rw [HFT.out]; simp [hs], rfl⟩
              · go_wp2_with (first | (go_at_call 61; refine (CN.out _).mono ?_; rintro e w4 ⟨rfl, rfl⟩) | fail)
                go_meet
                exact ⟨by rw [HFT.out]; simp, rfl⟩
          · have hz2 : ((zz : Int) != ze) = true := ne_bool hz
            go_wp2_with (first | (go_at_call 61; refine (CN.out _).mono ?_; rintro e w4 ⟨rfl, rfl⟩) | fail)
            go_meet
            exact ⟨by rw [HFT.out]; simp [hz], rfl⟩
      case rest =>
        obtain ⟨rfl, rfl⟩ := hcut
        clear d0 d1 d2 d3 d4 d5 d6 d7 d8 d9 g0 g3 n3 n8 CN hw2 ht
        rcases ft with _ | _
        · go_wp2_with fail
          go_roundw
          case rel => exact ⟨k + 1, by omega, by go_num, find_miss HF.out HX.out HFV.out, HBE.out.trans (HBX.out.mono HBE.out.size)⟩
          case measure => simp [intOf]; omega
        · skip
          have g5 := HOX.out.cell (j := 5) rfl
          have g6 := HOX.out.cell (j := 6) rfl
          have gf := HOX.out.free 6
          have n7 := (HBX.out.cell (p := ⟨w.heap.size + 1, 7, none⟩) z1).trans m7
          have np0 := (HBX.out.cell (p := ⟨w.heap.size, 0, none⟩) z0).trans p0
          have nz0 : w.heap.size < wc.heap.size := by omega
          have nb0 : w.heap.size ≠ wr.heap.size := by omega
          have nb1 : w.heap.size + 1 ≠ wr.heap.size := by omega
          have nb2 : w.heap.size + 1 + 1 ≠ wr.heap.size := by omega
          dsimp only at g6
          have HFI := Lib.hid (find_hit HF.out HX.out HFV.out)
          have HYR := Lib.hid (HYE.out k _ HNB.out HFI.out HX.out)
          have HPR := Lib.hid (HPA.out k _ HNB.out HFI.out HX.out)
          rw [HAV.out] at HYR HPR
          dsimp only at HYR HPR
          clear p0 p1 m3 m7 m8
          by_cases hf : an = full x5.length
          · have hR := HYR.out hf
            subst hR
            subst hf
            clear HYR HPR
            go_upto_region 10 with (first | (go_at_call 68; refine (CF.out _).mono ?_; rintro e w4 ⟨rfl, rfl⟩) | fail)
            obtain ⟨X, hX⟩ : ∃ X, X = wc.setCell ⟨wr.heap.size, 6, none⟩ (.int .u32 ((full x5.length : Nat) : Int)) := ⟨_, rfl⟩
            have HXB := Lib.hid (show Below wr.heap.size wr X by rw [hX]; exact HBX.out.setCell (p := ⟨wr.heap.size, 6, none⟩) (Nat.le_refl _) _)
            have HXO := Lib.hid (show Box X wr.heap.size (outCs ⟨x0, x1, x2, x3, x4, x5, full x5.length, x7, x8, x9⟩ (.slice A7 x5.length c7)) by rw [hX]; exact HOX.out.set 6 _)
            rw [← hX]
            clear hX g5 g6 gf gz n7 np0 nz0 nz hand hor
            have HXW := Lib.hid (show Below w3.heap.size w3 X from HBE.out.trans (HXB.out.mono HBE.out.size))
            have g6 := HXO.out.cell (j := 6) rfl
            have p0 := (K0.out.on HXW.out).cell (j := 0) rfl
            have p1 := (K0.out.on HXW.out).cell (j := 1) rfl
            have z0 := (K0.out.on HXW.out).lt
            dsimp only at g6
            have HWX := Lib.hid (show Below w.heap.size w X from HB3.out.trans (HXW.out.mono HB3.out.size))
            have CW := Lib.hid (rwithout_any (fun b => b < w.heap.size) os k (.slice (some ⟨b1, o1, none⟩) N c1) X (fun b hb => by have := HWX.out.size; omega) ((rowV_P HV.out).keep fun b _ hb => HWX.out.cell (p := ⟨b, _, none⟩) hb) (by rw [HN.out]; exact hlt) (by rw [HN.out]; exact ho))
            go_wp2_with fail
            refine CW.out.mono ?_
            rintro e w5 ⟨hb5, x, rfl, hx⟩
            obtain ⟨A5, c5, rfl⟩ := hx.form
            have hle5 : (os.eraseIdx k).length = N - 1 := by rw [List.length_eraseIdx_of_lt (by rw [HN.out]; exact hlt), HN.out]
            rw [hle5] at hx ⊢
            have HX5 := Lib.hid hx
            have HB5 := Lib.hid (HXW.out.trans (hb5.mono HXW.out.size))
            have hzz : w.heap.size + 3 ≤ X.heap.size := Nat.le_trans KZ.out HXW.out.size
            clear hb5 hx p0 p1 z0 g6 hle5
            have p0 := (K0.out.on HB5.out).cell (j := 0) rfl
            have p1 := (K0.out.on HB5.out).cell (j := 1) rfl
            have t0 := (K0.out.on HB5.out).free 0
            have z0 := (K0.out.on HB5.out).lt
            have r0 := (K2.out.on HB5.out).cell (j := 0) rfl
            have r1 := (K2.out.on HB5.out).cell (j := 1) rfl
            have f0 := (K2.out.on HB5.out).free 0
            have f1 := (K2.out.on HB5.out).free 1
            have z2 := (K2.out.on HB5.out).lt
            have na : w.heap.size ≠ w.heap.size + 1 + 1 := by omega
            have nab := Ne.symm na
            go_wp2_with fail
            obtain ⟨Z, hZ⟩ : ∃ Z, Z = (w5.setCell ⟨w.heap.size, 0, none⟩ (.slice A5 (N - 1) c5)).setCells (w.heap.size + 1 + 1) 0 [.slice A5 (N - 1) c5, .slice A2 M c2] := ⟨_, rfl⟩
            have hZB : Below w.heap.size w Z := by rw [hZ]; exact below_puts (b := w.heap.size + 1 + 1) (by omega) 0 _ ((HB3.out.trans (HB5.out.mono HB3.out.size)).setCell (p := ⟨w.heap.size, 0, none⟩) (Nat.le_refl _) _)
            have hZR : Box Z (w.heap.size + 1 + 1) [.slice A5 (N - 1) c5, .slice A2 M c2] := by rw [hZ]; exact ((K2.out.on HB5.out).far (p := ⟨w.heap.size, 0, none⟩) nab _).put _ rfl
            have hZO : RowP outCs 10 OutS.parts Z (NewB (fun b => b < w.heap.size) X w5) (.slice A5 (N - 1) c5) (os.eraseIdx k) := by
              rw [hZ]
              exact rowP_far (rowP_far (rowP_far HX5.out (fun b hb => by rcases hb with hb | hb <;> omega) 0 _) (fun b hb => by rcases hb with hb | hb <;> omega) 0 _) (fun b hb => by rcases hb with hb | hb <;> omega) 1 _
            have hZs : Z.heap.size = w5.heap.size := by rw [hZ, size_puts]; simp
            rw [show ((w5.setCell ⟨w.heap.size, 0, none⟩ (.slice A5 (N - 1) c5)).setCell ⟨w.heap.size + 1 + 1, 0, none⟩ (.slice A5 (N - 1) c5)).setCell ⟨w.heap.size + 1 + 1, 1, none⟩ (.slice A2 M c2) = Z from hZ.symm]
            clear hZ
            refine bodyPost_ret (res_tr2 rfl _ _ (w.heap.size + 1 + 1) (.slice A5 (N - 1) c5) (.slice A2 M c2) rfl hZR) rfl (HQ.out _ _ _ _ rfl hZB (hZO.weak fun b hb => ?_) (HU.out.on hZB))
            rw [hZs]
            rcases hb with hb | hb <;> omega
          · have hR := HPR.out hf
            subst hR
            have hf2 : ((an : Int) == ((full x5.length : Nat) : Int)) = false := by simp; omega
            clear HYR HPR
            go_upto_region 10 with (first | (go_at_call 68; refine (CF.out _).mono ?_; rintro e w4 ⟨rfl, rfl⟩) | fail)
            obtain ⟨X0, hX⟩ : ∃ X0, X0 = wc.setCell ⟨wr.heap.size, 6, none⟩ (.int .u32 (an : Int)) := ⟨_, rfl⟩
            have HXB := Lib.hid (show Below wr.heap.size wr X0 by rw [hX]; exact HBX.out.setCell (p := ⟨wr.heap.size, 6, none⟩) (Nat.le_refl _) _)
            have HXO := Lib.hid (show Box X0 wr.heap.size (outCs ⟨x0, x1, x2, x3, x4, x5, an, x7, x8, x9⟩ (.slice A7 x5.length c7)) by rw [hX]; exact HOX.out.set 6 _)
            rw [← hX]
            clear hX g5 g6 gf gz n7 np0 nz0 nz hand hor
            have HXW := Lib.hid (show Below w3.heap.size w3 X0 from HBE.out.trans (HXB.out.mono HBE.out.size))
            have HWX := Lib.hid (show Below w.heap.size w X0 from HB3.out.trans (HXW.out.mono HB3.out.size))
            have g6 := HXO.out.cell (j := 6) rfl
            have p0 := (K0.out.on HXW.out).cell (j := 0) rfl
            have p1 := (K0.out.on HXW.out).cell (j := 1) rfl
            have t0 := (K0.out.on HXW.out).free 0
            have z0 := (K0.out.on HXW.out).lt
            dsimp only at g6
            obtain ⟨vs, v1, v2, v3⟩ := HV.out
            rw [HN.out] at v1 v2
            have HVL := Lib.hid v1
            have HVP := Lib.hid v3
            have HVS := Lib.hid v2
            have HONE := Lib.hid (show ∀ u ∈ flat2 outCs os vs, u.oneCell' = true from fun u hu => flat2_cells (fun o v => outCs_one o) os vs (fun v hv => by
              obtain ⟨q, hq, rfl⟩ := List.getElem_of_mem hv
              exact partsV_one (v3 q _ _ (List.getElem?_eq_getElem (by rw [HN.out]; omega)) (List.getElem?_eq_getElem hq))) u hu)
            clear v1 v2 v3
            go_upto_region 14 with (first
              | (at_builtin
                 refine app_sl _ elO rfl (.tmp 85) (.tmp 87) rfl rfl (own_nil X0 _ 10) rfl ((HVS.out.on HWX.out).on (al1 _ _)) ?_ ?_ ?_ ?_
                 · exact HONE.out
                 · omega
                 · simp
                 intro v9 w9 hown9 hg9 hnil9 hat9
                 rw [Nat.zero_add, List.nil_append] at hown9
                 have hb9 : Below X0.heap.size X0 w9 := below_app (al1 _ _) (own_nil X0 _ 10) hg9 (Nat.le_refl _) (by simp)
                 have HB9 := Lib.hid hb9
                 have HW9 := Lib.hid (HXW.out.trans (hb9.mono HXW.out.size))
                 have HX9 := Lib.hid (HXO.out.on hb9)
                 obtain ⟨g, c9, rfl, hga, hgb⟩ := own_addr hown9 (by omega)
                 have HO9 := Lib.hid hown9
                 clear hown9 hg9 hnil9 hat9 hb9 p0 p1 t0 z0 g6
                 have p0 := (K0.out.on HW9.out).cell (j := 0) rfl
                 have p1 := (K0.out.on HW9.out).cell (j := 1) rfl
                 have t0 := (K0.out.on HW9.out).free 0
                 have z0 := (K0.out.on HW9.out).lt)
              | fail)
            obtain ⟨X, hX⟩ : ∃ X, X = w9.setCell ⟨w.heap.size, 0, none⟩ (.slice (some ⟨g, 0, none⟩) N c9) := ⟨_, rfl⟩
            have hzz : w.heap.size + 3 ≤ X0.heap.size := Nat.le_trans KZ.out HXW.out.size
            have HXR := Lib.hid (show X.ownsRow X0.heap.size 75 10 (.slice (some ⟨g, 0, none⟩) N c9) N (flat2 outCs os vs) by rw [hX]; exact own_far HO9.out (by omega) 0 _)
            have HXT := Lib.hid (show Box X w.heap.size [.slice (some ⟨g, 0, none⟩) N c9, .slice A2 M c2] by rw [hX]; exact (K0.out.on HW9.out).set 0 _)
            have HX2 := Lib.hid (show Box X (w.heap.size + 1 + 1) [.slice none 0 0, .slice none 0 0] by rw [hX]; exact (K2.out.on HW9.out).far (p := ⟨w.heap.size, 0, none⟩) (by show w.heap.size + 1 + 1 ≠ w.heap.size; omega) _)
            have HXX := Lib.hid (show Box X wr.heap.size (outCs ⟨x0, x1, x2, x3, x4, x5, an, x7, x8, x9⟩ (.slice A7 x5.length c7)) by rw [hX]; exact HX9.out.far (p := ⟨w.heap.size, 0, none⟩) (Ne.symm nb0) _)
            have HXE := Lib.hid (show Below w.heap.size w X by rw [hX]; exact (HB3.out.trans (HW9.out.mono HB3.out.size)).setCell (p := ⟨w.heap.size, 0, none⟩) (Nat.le_refl _) _)
            rw [← hX]
            clear hX p0 p1 t0 z0
            have p0 := HXT.out.cell (j := 0) rfl
            have p1 := HXT.out.cell (j := 1) rfl
            have z0 := HXT.out.lt
            have g0 := HXX.out.cell (j := 0) rfl
            have g1 := HXX.out.cell (j := 1) rfl
            have g2 := HXX.out.cell (j := 2) rfl
            have g3 := HXX.out.cell (j := 3) rfl
            have g4 := HXX.out.cell (j := 4) rfl
            have g5 := HXX.out.cell (j := 5) rfl
            have g6 := HXX.out.cell (j := 6) rfl
            have g7 := HXX.out.cell (j := 7) rfl
            have g8 := HXX.out.cell (j := 8) rfl
            have g9 := HXX.out.cell (j := 9) rfl
            have gz := HXX.out.lt
            dsimp only at g0 g1 g2 g3 g4 g6 g7 g8 g9
            have h0 : X.frozen? ⟨g, k * 10, none⟩ = false := HXR.out.frozenAt (k * 10)
            have h1 : X.frozen? ⟨g, k * 10 + 1, none⟩ = false := HXR.out.frozenAt (k * 10 + 1)
            have h2 : X.frozen? ⟨g, k * 10 + 2, none⟩ = false := HXR.out.frozenAt (k * 10 + 2)
            have h3 : X.frozen? ⟨g, k * 10 + 3, none⟩ = false := HXR.out.frozenAt (k * 10 + 3)
            have h4 : X.frozen? ⟨g, k * 10 + 4, none⟩ = false := HXR.out.frozenAt (k * 10 + 4)
            have h5 : X.frozen? ⟨g, k * 10 + 5, none⟩ = false := HXR.out.frozenAt (k * 10 + 5)
            have h6 : X.frozen? ⟨g, k * 10 + 6, none⟩ = false := HXR.out.frozenAt (k * 10 + 6)
            have h7 : X.frozen? ⟨g, k * 10 + 7, none⟩ = false := HXR.out.frozenAt (k * 10 + 7)
            have h8 : X.frozen? ⟨g, k * 10 + 8, none⟩ = false := HXR.out.frozenAt (k * 10 + 8)
            have h9 : X.frozen? ⟨g, k * 10 + 9, none⟩ = false := HXR.out.frozenAt (k * 10 + 9)
            have hlen : (flat2 outCs os vs).length = N * 10 := by rw [flat2_len outCs_len os vs (by rw [HVL.out, HN.out]), HN.out]
            obtain ⟨y0, c0x⟩ : ∃ y, X.cell? ⟨g, k * 10, none⟩ = some y := ⟨_, own_cell HXR.out (List.getElem?_eq_getElem (show k * 10 < (flat2 outCs os vs).length by rw [hlen]; omega))⟩
            obtain ⟨y1, c1x⟩ : ∃ y, X.cell? ⟨g, k * 10 + 1, none⟩ = some y := ⟨_, own_cell HXR.out (List.getElem?_eq_getElem (show k * 10 + 1 < (flat2 outCs os vs).length by rw [hlen]; omega))⟩
            obtain ⟨y2, c2x⟩ : ∃ y, X.cell? ⟨g, k * 10 + 2, none⟩ = some y := ⟨_, own_cell HXR.out (List.getElem?_eq_getElem (show k * 10 + 2 < (flat2 outCs os vs).length by rw [hlen]; omega))⟩
            obtain ⟨y3, c3x⟩ : ∃ y, X.cell? ⟨g, k * 10 + 3, none⟩ = some y := ⟨_, own_cell HXR.out (List.getElem?_eq_getElem (show k * 10 + 3 < (flat2 outCs os vs).length by rw [hlen]; omega))⟩
            obtain ⟨y4, c4x⟩ : ∃ y, X.cell? ⟨g, k * 10 + 4, none⟩ = some y := ⟨_, own_cell HXR.out (List.getElem?_eq_getElem (show k * 10 + 4 < (flat2 outCs os vs).length by rw [hlen]; omega))⟩
            obtain ⟨y5, c5x⟩ : ∃ y, X.cell? ⟨g, k * 10 + 5, none⟩ = some y := ⟨_, own_cell HXR.out (List.getElem?_eq_getElem (show k * 10 + 5 < (flat2 outCs os vs).length by rw [hlen]; omega))⟩
            obtain ⟨y6, c6x⟩ : ∃ y, X.cell? ⟨g, k * 10 + 6, none⟩ = some y := ⟨_, own_cell HXR.out (List.getElem?_eq_getElem (show k * 10 + 6 < (flat2 outCs os vs).length by rw [hlen]; omega))⟩
            obtain ⟨y7, c7x⟩ : ∃ y, X.cell? ⟨g, k * 10 + 7, none⟩ = some y := ⟨_, own_cell HXR.out (List.getElem?_eq_getElem (show k * 10 + 7 < (flat2 outCs os vs).length by rw [hlen]; omega))⟩
            obtain ⟨y8, c8x⟩ : ∃ y, X.cell? ⟨g, k * 10 + 8, none⟩ = some y := ⟨_, own_cell HXR.out (List.getElem?_eq_getElem (show k * 10 + 8 < (flat2 outCs os vs).length by rw [hlen]; omega))⟩
            obtain ⟨y9, c9x⟩ : ∃ y, X.cell? ⟨g, k * 10 + 9, none⟩ = some y := ⟨_, own_cell HXR.out (List.getElem?_eq_getElem (show k * 10 + 9 < (flat2 outCs os vs).length by rw [hlen]; omega))⟩
            have ggz := (HXR.out.lt g rfl).2
            have ngb : g ≠ wr.heap.size := by have := HX9.out.lt; have := HXO.out.lt; omega
            have ngt : g ≠ w.heap.size := by omega
            have i0 : (0 : Int) ≤ (k : Int) := by omega
            have iN : (k : Int) < (N : Int) := by omega
            clear hlen
            go_upto_region 15 with fail
            obtain ⟨Y, hY⟩ : ∃ Y, Y = X.setCells g (k * 10) (outCs ⟨x0, x1, x2, x3, x4, x5, an, x7, x8, x9⟩ (.slice A7 x5.length c7)) := ⟨_, rfl⟩
            rw [show (((((((((X.setCell ⟨g, k * 10, none⟩ (.int .u16 (x0 : Int))).setCell ⟨g, k * 10 + 1, none⟩ (.int .u16 (x1 : Int))).setCell ⟨g, k * 10 + 2, none⟩ (.bool x2)).setCell ⟨g, k * 10 + 3, none⟩ (.int .u32 (x3 : Int))).setCell ⟨g, k * 10 + 4, none⟩ (.int .u32 (x4 : Int))).setCell ⟨g, k * 10 + 5, none⟩ (.slice A7 x5.length c7)).setCell ⟨g, k * 10 + 6, none⟩ (.int .u32 (an : Int))).setCell ⟨g, k * 10 + 7, none⟩ (.int .i64 x7)).setCell ⟨g, k * 10 + 8, none⟩ (.int .i64 x8)).setCell ⟨g, k * 10 + 9, none⟩ (.int .i64 x9) = Y from hY.symm]
            have HWY := Lib.hid (show Below w.heap.size w Y by rw [hY]; exact below_puts (b := g) (by have := HXR.out.lt g rfl; omega) _ _ HXE.out)
            have hYR : Y.ownsRow X0.heap.size 75 10 (.slice (some ⟨g, 0, none⟩) os.length c9) os.length (flat2 outCs (os.set k ⟨x0, x1, x2, x3, x4, x5, an, x7, x8, x9⟩) (vs.set k (.slice A7 x5.length c7))) := by
              rw [hY]
              have h := HXR.out
              rw [← HN.out] at h
              exact own_put outCs_len (by rw [HVL.out, HN.out]) h hki ⟨x0, x1, x2, x3, x4, x5, an, x7, x8, x9⟩ (.slice A7 x5.length c7)
            rw [HN.out] at hYR
            have HYR := Lib.hid hYR
            have HYT := Lib.hid (show Box Y w.heap.size [.slice (some ⟨g, 0, none⟩) N c9, .slice A2 M c2] by rw [hY]; exact HXT.out.puts_far (Ne.symm ngt) _ _)
            have HY2 := Lib.hid (show Box Y (w.heap.size + 1 + 1) [.slice none 0 0, .slice none 0 0] by rw [hY]; exact HX2.out.puts_far (by omega) _ _)
            clear hY hYR p0 p1 z0 g0 g1 g2 g3 g4 g5 g6 g7 g8 g9 gz h0 h1 h2 h3 h4 h5 h6 h7 h8 h9 c0x c1x c2x c3x c4x c5x c6x c7x c8x c9x
            have p0 := HYT.out.cell (j := 0) rfl
            have p1 := HYT.out.cell (j := 1) rfl
            have r0 := HY2.out.cell (j := 0) rfl
            have r1 := HY2.out.cell (j := 1) rfl
            have f0 := HY2.out.free 0
            have f1 := HY2.out.free 1
            have z0 := HYT.out.lt
            have z2 := HY2.out.lt
            go_wp2_with fail
            obtain ⟨Z, hZ⟩ : ∃ Z, Z = Y.setCells (w.heap.size + 1 + 1) 0 [.slice (some ⟨g, 0, none⟩) N c9, .slice A2 M c2] := ⟨_, rfl⟩
            have hZB : Below w.heap.size w Z := by rw [hZ]; exact below_puts (b := w.heap.size + 1 + 1) (by omega) 0 _ HWY.out
            have hZR : Box Z (w.heap.size + 1 + 1) [.slice (some ⟨g, 0, none⟩) N c9, .slice A2 M c2] := by rw [hZ]; exact HY2.out.put _ rfl
            have zw : w.heap.size + 1 + 1 < X0.heap.size := by omega
            have hZO : Z.ownsRow X0.heap.size 75 10 (.slice (some ⟨g, 0, none⟩) N c9) N (flat2 outCs (os.set k ⟨x0, x1, x2, x3, x4, x5, an, x7, x8, x9⟩) (vs.set k (.slice A7 x5.length c7))) := by rw [hZ]; exact own_far (own_far HYR.out zw 0 _) zw 1 _
            rw [show (Y.setCell ⟨w.heap.size + 1 + 1, 0, none⟩ (.slice (some ⟨g, 0, none⟩) N c9)).setCell ⟨w.heap.size + 1 + 1, 1, none⟩ (.slice A2 M c2) = Z from hZ.symm]
            clear hZ
            refine bodyPost_ret (res_tr2 rfl _ _ (w.heap.size + 1 + 1) (.slice (some ⟨g, 0, none⟩) N c9) (.slice A2 M c2) rfl hZR) rfl (HQ.out _ _ _ _ rfl hZB ⟨vs.set k (.slice A7 x5.length c7), by rw [List.length_set, List.length_set, HVL.out, HN.out], ?_, fun i o' u' hi hu' => ?_⟩ (HU.out.on hZB))
            · rw [List.length_set, HN.out]
              exact Sl.of_own hZO
            · by_cases hik : i = k
              · subst hik
                rw [List.getElem?_set_self hki] at hi
                rw [List.getElem?_set_self (by rw [HVL.out]; exact hlt)] at hu'
                simp only [Option.some.injEq] at hi hu'
                subst hi hu'
                exact HPV.out.on hZB
              · rw [List.getElem?_set_ne (Ne.symm hik)] at hi hu'
                exact (HVP.out i o' u' hi hu').on hZB
    · have hkN : k = N := by omega
      subst hkN
      rw [← HN.out, List.take_length] at hF
      have hR := HNO.out hF
      subst hR
      have r0 := (K2.out.on hbel).cell (j := 0) rfl
      have r1 := (K2.out.on hbel).cell (j := 1) rfl
      have f0 := (K2.out.on hbel).free 0
      have f1 := (K2.out.on hbel).free 1
      have z2 := (K2.out.on hbel).lt
      have HK2 := Lib.hid (K2.out.on hbel)
      clear hF hbel HF
      go_wp2_with fail
      refine bodyPost_ret (res_tr2 rfl _ _ (w.heap.size + 1 + 1) (.slice A1 k c1) (.slice A2 M c2) rfl ?_) rfl (HQ.out _ _ _ _ rfl ?_ ?_ ?_)
      · exact HK2.out.put [.slice A1 k c1, .slice A2 M c2] rfl
      · exact below_puts (b := w.heap.size + 1 + 1) (by omega) 0 [.slice A1 k c1, .slice A2 M c2] HBW.out
      · exact HV.out.on (below_puts (b := w.heap.size + 1 + 1) (by omega) 0 [.slice A1 k c1, .slice A2 M c2] HBW.out)
      · exact HU.out.on (below_puts (b := w.heap.size + 1 + 1) (by omega) 0 [.slice A1 k c1, .slice A2 M c2] HBW.out)

/-- What the reference's Acks leaves. -/
def RAcksPost (os : List OutS) (is : List InS) (now : Int) (w : World) (e : Ending) (w' : World) : Prop :=
  Below w.heap.size w w' ∧ ∃ v u x, e = .returned (.tuple #[.agg #[v, u], x]) ∧
    RowV outCs 10 OutS.parts w' w'.heap.size v os ∧ RowV inCs 11 InS.parts w' w'.heap.size u (acksI is now) ∧ OutwsV w' w'.heap.size x (acksO is now)
/-- The row of the call's own, some of whose messages have been acknowledged; what is sent. -/
structure RkSt (is : List InS) (now : Int) (W wr : World) (b0 B : Nat) (vI o : Value) (ys : List Value) (k : Nat) (L : List Outw) : Prop where
  len : ys.length = is.length
  row : wr.ownsRow B 95 11 vI is.length (flat2 inCs (acksAt is now k) ys)
  parts : ∀ (i : Nat) x u, is[i]? = some x → ys[i]? = some u → PartsV wr b0 u x.parts
  out : OwnOutw wr B o L
  be : Below B W wr
  lt : b0 ≤ B ∧ B ≤ wr.heap.size
section
variable {is : List InS} {now : Int} {W wr w' : World} {b0 B : Nat} {vI o : Value} {ys : List Value} {k : Nat} {L : List Outw}
theorem RkSt.on (h : RkSt is now W wr b0 B vI o ys k L) (hb : Below wr.heap.size wr w') : RkSt is now W w' b0 B vI o ys k L :=
  ⟨h.len, own_on h.row hb, fun i x u hx hu => (h.parts i x u hx hu).below (hb.mono (Nat.le_trans h.lt.1 h.lt.2)), h.out.on hb, h.be.trans (hb.mono h.lt.2), ⟨h.lt.1, Nat.le_trans h.lt.2 hb.size⟩⟩
theorem RkSt.cell {g c : Nat} (h : RkSt is now W wr b0 B (.slice (some ⟨g, 0, none⟩) is.length c) o ys k L) {j : Nat} {x : InS} {v u : Value} (hk : k ≤ is.length) (hx : (acksAt is now k)[k]? = some x) (hv : ys[k]? = some v) (hu : (inCs x v)[j]? = some u) : wr.cell? ⟨g, k * 11 + j, none⟩ = some u := by
  have hj : j < 11 := (List.getElem?_eq_some_iff.1 hu).1
  exact own_cell h.row ((flat2_at inCs_len (acksAt is now k) ys k x v j (by rw [h.len, acksAt_len is now hk]) hx hv hj).trans hu)
/-- The message is marked as acknowledged. -/
theorem RkSt.set {g c : Nat} (h : RkSt is now W wr b0 B (.slice (some ⟨g, 0, none⟩) is.length c) o ys k L) {x x' : InS} {v u : Value} (hx : is[k]? = some x) (hv : ys[k]? = some v) (hset : (inCs x v).set 8 u = inCs x' v) (hx' : ackI now x = x') :
    RkSt is now W (wr.setCell ⟨g, k * 11 + 8, none⟩ u) b0 B (.slice (some ⟨g, 0, none⟩) is.length c) o ys (k + 1) L := by
  have hk : k < is.length := (List.getElem?_eq_some_iff.1 hx).1
  have hg := (h.row.lt g rfl).1
  have h2 := (h.row.stored (k * 11 + 8) u).1
  rw [flat2_set inCs_len (acksAt is now k) ys k x x' v v 8 u (by rw [h.len, acksAt_len is now (by omega)]) (acksAt_at hx) hv (by omega) hset, list_set_self hv, ← hx', acksAt_succ hx] at h2
  exact ⟨h.len, h2, fun i y z hy hz => (h.parts i y z hy hz).below ((Below.refl _ _).setCell (by show b0 ≤ g; have := h.lt.1; omega) _), h.out.grown h.row (by decide) (by decide) (h.row.stored _ _).2, h.be.setCell (by show B ≤ g; omega) _, ⟨h.lt.1, by simpa using h.lt.2⟩⟩
/-- The row of what is sent has grown. -/
theorem RkSt.add (h : RkSt is now W wr b0 B vI o ys k L) {n : Nat} {vs : List Value} {u v9 : Value} {p : Outw} {w9 : World} (hl : vs.length = L.length) (hn : n = L.length) (hrow : wr.ownsRow B 65 13 o n (flat2 owF L vs)) (hob : ∀ (i : Nat) p u, L[i]? = some p → vs[i]? = some u → OB wr B u p.2) (hu : OB wr B u p.2)
    (h9 : w9.ownsRow B 65 13 v9 (n + 1) (flat2 owF L vs ++ owF p u)) (hg : wr.grownBy w9 o.ownBlock) : RkSt is now W w9 b0 B vI v9 ys k (L ++ [p]) := by
  have hb : Below B wr w9 := below_app (Below.refl _ _) hrow hg (Nat.le_refl _) h.lt.2
  exact ⟨h.len, own_grown_ty h.row hrow (by decide) hg, fun i y z hy hz => (h.parts i y z hy hz).below (hb.mono h.lt.1), ownM_snoc hl hn (by decide) hrow hob hu h9 hg, h.be.trans hb, ⟨h.lt.1, Nat.le_trans h.lt.2 hb.size⟩⟩
end
set_option maxRecDepth 100000 in
set_option maxHeartbeats 8000000 in
theorem racks_any (os : List OutS) (is : List InS) (now : Int) (v u : Value) (w : World) (hv : RowV outCs 10 OutS.parts w w.heap.size v os) (hu : RowV inCs 11 InS.parts w w.heap.size u is) (hi : is.length ≤ 65536) :
    Calls Try.prog 56 #[.agg #[v, u], .int .i64 now] w (RAcksPost os is now w) := by
  obtain ⟨A1, c1, rfl⟩ := rowV_form hv
  obtain ⟨A2, c2, rfl⟩ := rowV_form hu
  have HV := Lib.hid hv
  have HQ := Lib.hid (show ∀ (e : Ending) (w' : World), (Below w.heap.size w w' ∧ ∃ v u x, e = .returned (.tuple #[.agg #[v, u], x]) ∧
    RowV outCs 10 OutS.parts w' w'.heap.size v os ∧ RowV inCs 11 InS.parts w' w'.heap.size u (acksI is now) ∧ OutwsV w' w'.heap.size x (acksO is now)) → RAcksPost os is now w e w' from fun _ _ h => h)
  generalize RAcksPost os is now w = Q at *
  obtain ⟨ys, hyl, hrow, hparts⟩ := hu
  have HY := Lib.hid hyl
  have HR := Lib.hid hrow
  have HP := Lib.hid hparts
  have HONE := Lib.hid (inCells_one is hyl hparts)
  generalize hN : os.length = N at *
  generalize hM : is.length = M at *
  have HM := Lib.hid hM
  clear hN hM hv hyl hrow hparts
  go_enter Try.func56, Try.ntmps56
  go_upto_region 1 with fail
  obtain ⟨W, hW⟩ : ∃ W, W = (w.alloc (.cells #[.slice A1 N c1, .slice A2 M c2] 47)).alloc (.cells #[.slice none 0 0, .slice none 0 0] 47) := ⟨_, rfl⟩
  have hA : Below w.heap.size w W := by rw [hW]; exact al2 _ _ _
  have hb0 : Box W w.heap.size [.slice A1 N c1, .slice A2 M c2] := by rw [hW]; exact (Box.new _ _ _).alloc _
  have hb1 : Box W (w.heap.size + 1) [.slice none 0 0, .slice none 0 0] := ⟨47, by rw [hW, heap_al, if_pos (by simp)]⟩
  rw [← hW]
  clear hW
  have HA := Lib.hid hA
  have H0 := Lib.hid hb0
  have H1 := Lib.hid hb1
  have p0 := hb0.cell (j := 0) rfl
  have p1 := hb0.cell (j := 1) rfl
  have z0 := hb0.lt
  clear hA hb0 hb1
  go_upto_region 2 with (first
    | (at_builtin
       refine app_sl _ elIn rfl (.tmp 10) (.tmp 12) rfl rfl (own_nil W _ 11) rfl ((HR.out.on HA.out).on (al1 _ _)) ?_ ?_ ?_ ?_
       · exact HONE.out
       · omega
       · simp
       intro v9 w9 hown9 hg9 hnil9 hat9
       rw [Nat.zero_add, List.nil_append] at hown9
       have HB9 := Lib.hid (show Below W.heap.size W w9 from below_app (al1 _ _) (own_nil W _ 11) hg9 (Nat.le_refl _) (by simp))
       have HO9 := Lib.hid hown9
       obtain ⟨A9, c9, rfl⟩ := own_form hown9
       clear hown9 hg9 hnil9 hat9)
    | fail)
  have HK0 := Lib.hid (show RkSt is now W w9 w.heap.size W.heap.size (.slice A9 M c9) (.slice none 0 0) ys 0 [] from
    ⟨by rw [HY.out, HM.out], by rw [acksAt_zero, HM.out]; exact HO9.out, fun i x u hx hu => (HP.out i x u hx hu).below (HA.out.trans (HB9.out.mono HA.out.size)), OwnM.nil _ _, HB9.out, ⟨HA.out.size, HB9.out.size⟩⟩)
  clear p0 p1 z0
  go_wp2_with fail
  go_loopw [8, 7] (fun i o wr => ∃ k : Nat, k ≤ M ∧ i = .int .i64 k ∧ RkSt is now W wr w.heap.size W.heap.size (.slice A9 M c9) o ys k (acksO (is.take k) now)) (fun i _ _ => M - (intOf i).toNat)
  case atStart => exact ⟨0, Nat.zero_le _, rfl, HK0.out⟩
  clear HK0 HO9
  case round =>
    obtain ⟨k, hk, rfl, hK⟩ := hrel
    have HK := Lib.hid hK
    by_cases hlt : k < M
    · have hki : k < is.length := by rw [HM.out]; exact hlt
      have hx := List.getElem?_eq_getElem hki
      obtain ⟨y, hy⟩ : ∃ y, ys[k]? = some y := ⟨_, List.getElem?_eq_getElem (by rw [hK.len]; omega)⟩
      have hxa := acksAt_at (now := now) hx
      generalize is[k] = x at *
      have HX := Lib.hid hx
      have HXA := Lib.hid hxa
      have HYK := Lib.hid hy
      obtain ⟨xs1, xd1, xa1, xz1, xi1, xl1, xp1, xb1, xdu1, xt1, xf1⟩ := x
      obtain ⟨q, cq, hfq, hqa, hqb⟩ := own_addr hK.row (by omega)
      injection hfq with hfq1 hfq2 hfq3
      clear hfq2
      subst hfq1 hfq3
      rw [← HM.out] at hK
      have d0 : wr.cell? ⟨q, k * 11, none⟩ = some (.int .u16 (xs1 : Int)) := hK.cell (j := 0) (by omega) hxa hy rfl
      have d1 : wr.cell? ⟨q, k * 11 + 1, none⟩ = some (.int .u16 (xd1 : Int)) := hK.cell (j := 1) (by omega) hxa hy rfl
      have d3 : wr.cell? ⟨q, k * 11 + 3, none⟩ = some (.int .u32 (xz1 : Int)) := hK.cell (j := 3) (by omega) hxa hy rfl
      have d7 : wr.cell? ⟨q, k * 11 + 7, none⟩ = some (.int .u32 (xb1 : Int)) := hK.cell (j := 7) (by omega) hxa hy rfl
      have d8 : wr.cell? ⟨q, k * 11 + 8, none⟩ = some (.int .i64 xdu1) := hK.cell (j := 8) (by omega) hxa hy rfl
      have d9 : wr.cell? ⟨q, k * 11 + 9, none⟩ = some (.int .i64 xt1) := hK.cell (j := 9) (by omega) hxa hy rfl
      have f8 := hK.row.frozenAt (k * 11 + 8)
      have zh := (hK.row.lt q rfl).2
      clear hK hx hxa hy
      have HD := Lib.hid (show dueB now ⟨xs1, xd1, xa1, xz1, xi1, xl1, xp1, xb1, xdu1, xt1, xf1⟩ = (decide (1 ≤ xdu1) && decide (xdu1 ≤ max 1 now)) from rfl)
      generalize dueB now ⟨xs1, xd1, xa1, xz1, xi1, xl1, xp1, xb1, xdu1, xt1, xf1⟩ = dd at *
      have HDD := Lib.hid (show dueB now ⟨xs1, xd1, xa1, xz1, xi1, xl1, xp1, xb1, xdu1, xt1, xf1⟩ = dd from HD.out.symm)
      go_upto_region 6 with fail
      obtain ⟨wo, rfl⟩ : ∃ wo : World, wo = wr := ⟨_, rfl⟩
      go_cut [35] (fun t wx => t = .bool (!dd) ∧ wx = wo)
      case first =>
        go_wp2_with fail
        all_goals go_meet
        all_goals
          refine ⟨?_, rfl⟩
          rcases dd with _ | _ <;> (have hq := HD.out; simp at hq ⊢; try omega)
      case rest =>
        obtain ⟨rfl, rfl⟩ := hcut
        rcases dd with _ | _
        · go_wp2_with fail
          go_roundw
          case rel => exact ⟨k + 1, by omega, by go_num, ⟨HK.out.len, by rw [acksAt_same HX.out HDD.out]; exact HK.out.row, HK.out.parts, by rw [acksO_no HX.out HDD.out]; exact HK.out.out, HK.out.be, HK.out.lt⟩⟩
          case measure => simp [intOf]; omega
        · obtain ⟨yo, rfl⟩ : ∃ yo : World, yo = wc := ⟨_, rfl⟩
          go_upto_if 41 with fail
          go_cut [9] (fun t wx => t = .int .i64 (if xt1 = 0 then 0 else 127) ∧ wx = yo)
          case first =>
            go_wp2_with fail
            all_goals go_meet
            all_goals
              refine ⟨?_, rfl⟩
              simp_all
          case rest =>
            obtain ⟨rfl, rfl⟩ := hcut
            have HT := Lib.hid (show ackO ⟨xs1, xd1, xa1, xz1, xi1, xl1, xp1, xb1, xdu1, xt1, xf1⟩ = (⟨xd1, xs1, if xt1 = 0 then 0 else 127, ⟨true, false, false, ((xz1 % 8192 : Nat) : Int), 0, 0, 0, xb1, false⟩⟩, []) from rfl)
            generalize (if xt1 = 0 then (0 : Int) else 127) = tt at *
            have hw2 : IntKind.i64.wrap (((xz1 % 8192 : Nat) : Int)) = ((xz1 % 8192 : Nat) : Int) := IntWalk.i64_in _ (by omega)
            have ht : ((xz1 : Int).tmod 8192) = ((xz1 % 8192 : Nat) : Int) := by rw [Int.tmod_eq_emod_of_nonneg (by omega)]; omega
            generalize xz1 % 8192 = zz at *
            have hlY : (acksO (is.take k) now).length ≤ k := Nat.le_trans (acksO_len _ _) (by rw [List.length_take]; omega)
            obtain ⟨us, k1, k2, k3⟩ := HK.out.out
            obtain ⟨A5, c5, hpf⟩ := own_form k2
            subst hpf
            have HLE := Lib.hid hlY
            generalize hln : (acksO (is.take k) now).length = ln at *
            have HLN := Lib.hid hln
            have HU1 := Lib.hid k1
            have HU2 := Lib.hid k2
            have HU3 := Lib.hid k3
            have zB := HK.out.lt.2
            clear hln k1 k2 k3 hlY
            have i0 : (0 : Int) ≤ (k : Int) := by omega
            have iM : (k : Int) < (M : Int) := by omega
            go_upto_region 10 with fail
            refine wp_region_noPanic ?_
            refine wp_region_held_drew (S := fun w' => (w'.cell? ⟨q, k * 11, none⟩ = some (.int .u16 (xs1 : Int)) ∧ w'.cell? ⟨q, k * 11 + 1, none⟩ = some (.int .u16 (xd1 : Int)) ∧ w'.cell? ⟨q, k * 11 + 3, none⟩ = some (.int .u32 (xz1 : Int)) ∧ w'.cell? ⟨q, k * 11 + 7, none⟩ = some (.int .u32 (xb1 : Int))) ∧ q < w'.heap.size) (by kernel_rfl) (by (go_keep; try omega)) (fun hHeld => ?_)
            refine wpAnyH_take (i := 0) (v := ?_) rfl (by kernel_rfl) (by kernel_rfl) (by kernel_rfl) (fun _ _ _ h => h) (Or.inl ⟨by rfl, ?_⟩) (by assumption) ?_
            rotate_left
            · intro w hSw
              (try dsimp only at hSw)
              go_simp
              first | done | with_reducible rfl
            simp only [Act.put, List.getElem_toArray, List.getElem_cons_zero, List.setIfInBounds_toArray, List.set_cons_zero, List.set_cons_succ]
            refine wpAnyH_take (i := 1) (v := ?_) rfl (by kernel_rfl) (by kernel_rfl) (by kernel_rfl) (fun _ _ _ h => h) (Or.inl ⟨by rfl, ?_⟩) (by assumption) ?_
            rotate_left
            · intro w hSw
              (try dsimp only at hSw)
              go_simp
              first | done | with_reducible rfl
            simp only [Act.put, List.getElem_toArray, List.getElem_cons_succ, List.getElem_cons_zero, List.setIfInBounds_toArray, List.set_cons_zero, List.set_cons_succ]
            refine wpAnyH_take (i := 2) (v := ?_) rfl (by kernel_rfl) (by kernel_rfl) (by kernel_rfl) (fun _ _ _ h => h) (Or.inl ⟨by rfl, ?_⟩) (by assumption) ?_
            rotate_left
            · intro w hSw
              (try dsimp only at hSw)
              go_simp
              first | done | with_reducible rfl
            simp only [Act.put, List.getElem_toArray, List.getElem_cons_succ, List.getElem_cons_zero, List.setIfInBounds_toArray, List.set_cons_zero, List.set_cons_succ]
            refine wpAnyH_take (i := 3) (v := ?_) rfl (by kernel_rfl) (by kernel_rfl) (by kernel_rfl) (fun _ _ _ h => h) (Or.inl ⟨by rfl, ?_⟩) (by assumption) ?_
            rotate_left
            · intro w hSw
              (try dsimp only at hSw)
              go_simp
              first | done | with_reducible rfl
            simp only [Act.put, List.getElem_toArray, List.getElem_cons_succ, List.getElem_cons_zero, List.setIfInBounds_toArray, List.set_cons_zero, List.set_cons_succ]
            refine wpAnyH_take (i := 4) (v := ?_) rfl (by kernel_rfl) (by kernel_rfl) (by kernel_rfl) (fun _ _ _ h => h) (Or.inl ⟨by rfl, ?_⟩) (by assumption) ?_
            rotate_left
            · intro w hSw
              (try dsimp only at hSw)
              go_simp
              first | done | with_reducible rfl
            simp only [Act.put, List.getElem_toArray, List.getElem_cons_succ, List.getElem_cons_zero, List.setIfInBounds_toArray, List.set_cons_zero, List.set_cons_succ]
            refine wpAnyH_take (i := 5) (v := ?_) rfl (by kernel_rfl) (by kernel_rfl) (by kernel_rfl) (fun _ _ _ h => h) (Or.inl ⟨by rfl, ?_⟩) (by assumption) ?_
            rotate_left
            · intro w hSw
              (try dsimp only at hSw)
              go_simp
              first | done | with_reducible rfl
            simp only [Act.put, List.getElem_toArray, List.getElem_cons_succ, List.getElem_cons_zero, List.setIfInBounds_toArray, List.set_cons_zero, List.set_cons_succ]
            refine wpAnyH_take (i := 6) (v := ?_) rfl (by kernel_rfl) (by kernel_rfl) (by kernel_rfl) (fun _ _ _ h => h) (Or.inl ⟨by rfl, ?_⟩) (by assumption) ?_
            rotate_left
            · intro w hSw
              (try dsimp only at hSw)
              go_simp
              first | done | with_reducible rfl
            simp only [Act.put, List.getElem_toArray, List.getElem_cons_succ, List.getElem_cons_zero, List.setIfInBounds_toArray, List.set_cons_zero, List.set_cons_succ]
            refine wpAnyH_take (i := 7) (v := ?_) rfl (by kernel_rfl) (by kernel_rfl) (by kernel_rfl) (fun _ _ _ h => h) (Or.inl ⟨by rfl, ?_⟩) (by assumption) ?_
            rotate_left
            · intro w hSw
              (try dsimp only at hSw)
              go_simp
              first | done | with_reducible rfl
            simp only [Act.put, List.getElem_toArray, List.getElem_cons_succ, List.getElem_cons_zero, List.setIfInBounds_toArray, List.set_cons_zero, List.set_cons_succ]
            refine wpAnyH_take (i := 8) (v := ?_) rfl (by kernel_rfl) (by kernel_rfl) (by kernel_rfl) (fun _ _ _ h => h) (Or.inl ⟨by rfl, ?_⟩) (by assumption) ?_
            rotate_left
            · intro w hSw
              (try dsimp only at hSw)
              go_simp
              first | done | with_reducible rfl
            simp only [Act.put, List.getElem_toArray, List.getElem_cons_succ, List.getElem_cons_zero, List.setIfInBounds_toArray, List.set_cons_zero, List.set_cons_succ]
            refine wpAnyH_take (i := 9) (v := ?_) rfl (by kernel_rfl) (by kernel_rfl) (by kernel_rfl) (fun _ _ _ h => h) (Or.inl ⟨by rfl, ?_⟩) (by assumption) ?_
            rotate_left
            · intro w hSw
              (try dsimp only at hSw)
              go_simp
              first | done | with_reducible rfl
            simp only [Act.put, List.getElem_toArray, List.getElem_cons_succ, List.getElem_cons_zero, List.setIfInBounds_toArray, List.set_cons_zero, List.set_cons_succ]
            refine wpAnyH_take (i := 10) (v := ?_) rfl (by kernel_rfl) (by kernel_rfl) (by kernel_rfl) (fun _ _ _ h => h) (Or.inl ⟨by rfl, ?_⟩) (by assumption) ?_
            rotate_left
            · intro w hSw
              (try dsimp only at hSw)
              go_simp
              first | done | with_reducible rfl
            simp only [Act.put, List.getElem_toArray, List.getElem_cons_succ, List.getElem_cons_zero, List.setIfInBounds_toArray, List.set_cons_zero, List.set_cons_succ]
            refine wpAnyH_take (i := 11) (v := ?_) rfl (by kernel_rfl) (by kernel_rfl) (by kernel_rfl) (fun _ _ _ h => h) (Or.inl ⟨by rfl, ?_⟩) (by assumption) ?_
            rotate_left
            · intro w hSw
              (try dsimp only at hSw)
              go_simp
              first | done | with_reducible rfl
            simp only [Act.put, List.getElem_toArray, List.getElem_cons_succ, List.getElem_cons_zero, List.setIfInBounds_toArray, List.set_cons_zero, List.set_cons_succ]
            refine wpAnyH_take (i := 12) (v := ?_) rfl (by kernel_rfl) (by kernel_rfl) (by kernel_rfl) (fun _ _ _ h => h) (Or.inl ⟨by rfl, ?_⟩) (by assumption) ?_
            rotate_left
            · intro w hSw
              (try dsimp only at hSw)
              go_simp
              first | done | with_reducible rfl
            simp only [Act.put, List.getElem_toArray, List.getElem_cons_succ, List.getElem_cons_zero, List.setIfInBounds_toArray, List.set_cons_zero, List.set_cons_succ]
            refine wpAnyH_take (i := 13) (v := ?_) rfl (by kernel_rfl) (by kernel_rfl) (by kernel_rfl) (fun _ _ _ h => h) (Or.inl ⟨by rfl, ?_⟩) (by assumption) ?_
            rotate_left
            · intro w hSw
              (try dsimp only at hSw)
              go_simp
              first | done | with_reducible rfl
            simp only [Act.put, List.getElem_toArray, List.getElem_cons_succ, List.getElem_cons_zero, List.setIfInBounds_toArray, List.set_cons_zero, List.set_cons_succ]
            refine wpAnyH_take (i := 14) (v := ?_) rfl (by kernel_rfl) (by kernel_rfl) (by kernel_rfl) (fun _ _ _ h => h) (Or.inl ⟨by rfl, ?_⟩) (by assumption) ?_
            rotate_left
            · intro w hSw
              (try dsimp only at hSw)
              go_simp
              first | done | with_reducible rfl
            simp only [Act.put, List.getElem_toArray, List.getElem_cons_succ, List.getElem_cons_zero, List.setIfInBounds_toArray, List.set_cons_zero, List.set_cons_succ]
            refine wpAnyH_take (i := 15) (v := ?_) rfl (by kernel_rfl) (by kernel_rfl) (by kernel_rfl) (fun _ _ _ h => h) (Or.inl ⟨by rfl, ?_⟩) (by assumption) ?_
            rotate_left
            · intro w hSw
              (try dsimp only at hSw)
              go_simp
              first | done | with_reducible rfl
            simp only [Act.put, List.getElem_toArray, List.getElem_cons_succ, List.getElem_cons_zero, List.setIfInBounds_toArray, List.set_cons_zero, List.set_cons_succ]
            refine wpAnyH_take (i := 16) (v := ?_) rfl (by kernel_rfl) (by kernel_rfl) (by kernel_rfl) (fun _ _ _ h => h) (Or.inl ⟨by rfl, ?_⟩) (by assumption) ?_
            rotate_left
            · intro w hSw
              (try dsimp only at hSw)
              go_simp
              first | done | with_reducible rfl
            simp only [Act.put, List.getElem_toArray, List.getElem_cons_succ, List.getElem_cons_zero, List.setIfInBounds_toArray, List.set_cons_zero, List.set_cons_succ]
            refine wpAnyH_take (i := 17) (v := ?_) rfl (by kernel_rfl) (by kernel_rfl) (by kernel_rfl) (fun _ _ _ h => h) (Or.inl ⟨by rfl, ?_⟩) (by assumption) ?_
            rotate_left
            · intro w hSw
              (try dsimp only at hSw)
              go_simp
              first | done | with_reducible rfl
            simp only [Act.put, List.getElem_toArray, List.getElem_cons_succ, List.getElem_cons_zero, List.setIfInBounds_toArray, List.set_cons_zero, List.set_cons_succ]
            refine wpAnyH_take (i := 18) (v := ?_) rfl (by kernel_rfl) (by kernel_rfl) (by kernel_rfl) (fun _ _ _ h => h) (Or.inl ⟨by rfl, ?_⟩) (by assumption) ?_
            rotate_left
            · intro w hSw
              (try dsimp only at hSw)
              go_simp
              first | done | with_reducible rfl
            simp only [Act.put, List.getElem_toArray, List.getElem_cons_succ, List.getElem_cons_zero, List.setIfInBounds_toArray, List.set_cons_zero, List.set_cons_succ]
            refine wpAnyH_take (i := 19) (v := ?_) rfl (by kernel_rfl) (by kernel_rfl) (by kernel_rfl) (fun _ _ _ h => h) (Or.inl ⟨by rfl, ?_⟩) (by assumption) ?_
            rotate_left
            · intro w hSw
              (try dsimp only at hSw)
              go_simp
              first | done | with_reducible rfl
            simp only [Act.put, List.getElem_toArray, List.getElem_cons_succ, List.getElem_cons_zero, List.setIfInBounds_toArray, List.set_cons_zero, List.set_cons_succ]
            refine wpAnyH_take (i := 20) (v := ?_) rfl (by kernel_rfl) (by kernel_rfl) (by kernel_rfl) (fun _ _ _ h => h) (Or.inl ⟨by rfl, ?_⟩) (by assumption) ?_
            rotate_left
            · intro w hSw
              (try dsimp only at hSw)
              go_simp
              first | done | with_reducible rfl
            simp only [Act.put, List.getElem_toArray, List.getElem_cons_succ, List.getElem_cons_zero, List.setIfInBounds_toArray, List.set_cons_zero, List.set_cons_succ]
            refine wpAnyH_take (i := 21) (v := ?_) rfl (by kernel_rfl) (by kernel_rfl) (by kernel_rfl) (fun _ _ _ h => h) (Or.inl ⟨by rfl, ?_⟩) (by assumption) ?_
            rotate_left
            · intro w hSw
              (try dsimp only at hSw)
              go_simp
              first | done | with_reducible rfl
            simp only [Act.put, List.getElem_toArray, List.getElem_cons_succ, List.getElem_cons_zero, List.setIfInBounds_toArray, List.set_cons_zero, List.set_cons_succ]
            refine wpAnyH_take (i := 22) (v := ?_) rfl (by kernel_rfl) (by kernel_rfl) (by kernel_rfl) (fun _ _ _ h => h) (Or.inl ⟨by rfl, ?_⟩) (by assumption) ?_
            rotate_left
            · intro w hSw
              (try dsimp only at hSw)
              go_simp
              first | done | with_reducible rfl
            simp only [Act.put, List.getElem_toArray, List.getElem_cons_succ, List.getElem_cons_zero, List.setIfInBounds_toArray, List.set_cons_zero, List.set_cons_succ]
            refine wpAnyH_take (i := 23) (v := ?_) rfl (by kernel_rfl) (by kernel_rfl) (by kernel_rfl) (fun _ _ _ h => h) (Or.inl ⟨by rfl, ?_⟩) (by assumption) ?_
            rotate_left
            · intro w hSw
              (try dsimp only at hSw)
              go_simp
              first | done | with_reducible rfl
            simp only [Act.put, List.getElem_toArray, List.getElem_cons_succ, List.getElem_cons_zero, List.setIfInBounds_toArray, List.set_cons_zero, List.set_cons_succ]
            refine wpAnyH_take (i := 24) (v := ?_) rfl (by kernel_rfl) (by kernel_rfl) (by kernel_rfl) (fun _ _ _ h => h) (Or.inl ⟨by rfl, ?_⟩) (by assumption) ?_
            rotate_left
            · intro w hSw
              (try dsimp only at hSw)
              go_simp
              first | done | with_reducible rfl
            simp only [Act.put, List.getElem_toArray, List.getElem_cons_succ, List.getElem_cons_zero, List.setIfInBounds_toArray, List.set_cons_zero, List.set_cons_succ]
            refine wpAnyH_take (i := 25) (v := ?_) rfl (by kernel_rfl) (by kernel_rfl) (by kernel_rfl) (fun _ _ _ h => h) (Or.inl ⟨by rfl, ?_⟩) (by assumption) ?_
            rotate_left
            · intro w hSw
              (try dsimp only at hSw)
              go_simp
              first | done | with_reducible rfl
            simp only [Act.put, List.getElem_toArray, List.getElem_cons_succ, List.getElem_cons_zero, List.setIfInBounds_toArray, List.set_cons_zero, List.set_cons_succ]
            refine wpAnyH_ready (rs := [26]) (by kernel_rfl) (by simp) ?_
            refine AllReadyH.cons rfl (fun K hK => ?_) AllReadyH.nil
            go_simp
            first | (refine hK.out _ _ ?_ (fun hHeld => ?_)) | (go_wp2_with fail; refine hK.out _ _ ?_ (fun hHeld => ?_))
            · (go_keep; try omega)
            clear hK K
            try simp only [Act.put, List.getElem_toArray, List.getElem_cons_succ, List.getElem_cons_zero, List.setIfInBounds_toArray, List.set_cons_zero, List.set_cons_succ]
            refine wpAnyH_ready (rs := [27]) (by kernel_rfl) (by simp) ?_
            refine AllReadyH.cons rfl (fun K hK => ?_) AllReadyH.nil
            refine step_sl _ elOw rfl (.tmp 42) (.tmp 68) rfl rfl (HU2.out.alloc _) rfl (Sl.lit _ _ _ 1 rfl (by simp [maxLen])) ?_ ?_ ?_ ?_
            · exact owF_one (⟨xd1, xs1, tt, ⟨true, false, false, (zz : Int), 0, 0, 0, xb1, false⟩⟩, []) rfl
            · have := HLE.out; omega
            · exact Nat.le_trans zB (by simp)
            intro v9 w9 hown9 hg9 _ _
            have hK9 := (HK.out.on ((al1 _ (.cells #[.int .u16 (xd1 : Int), .int .u16 (xs1 : Int), .int .i64 tt, .bool true, .bool false, .bool false, .int .i64 (zz : Int), .int .i64 0, .int .i64 0, .int .i64 0, .int .u32 (xb1 : Int), .bool false, .slice none 0 0] 65)).drew)).add (p := (⟨xd1, xs1, tt, ⟨true, false, false, (zz : Int), 0, 0, 0, xb1, false⟩⟩, [])) (u := .slice none 0 0) (by rw [HU1.out, HLN.out]) HLN.out.symm (own_drew (HU2.out.alloc _)) (fun i p u hp hu => own_drew ((HU3.out i p u hp hu).alloc _)) (World.ownsRow_nil _ _ _ _) hown9 hg9
            have HK9 := Lib.hid hK9
            obtain ⟨A6, c6, rfl⟩ := own_form hown9
            rw [← HM.out] at hK9
            have x0 : w9.cell? ⟨q, k * 11, none⟩ = some (.int .u16 (xs1 : Int)) := hK9.cell (j := 0) (by omega) HXA.out HYK.out rfl
            have x1 : w9.cell? ⟨q, k * 11 + 1, none⟩ = some (.int .u16 (xd1 : Int)) := hK9.cell (j := 1) (by omega) HXA.out HYK.out rfl
            have x3 : w9.cell? ⟨q, k * 11 + 3, none⟩ = some (.int .u32 (xz1 : Int)) := hK9.cell (j := 3) (by omega) HXA.out HYK.out rfl
            have x7 : w9.cell? ⟨q, k * 11 + 7, none⟩ = some (.int .u32 (xb1 : Int)) := hK9.cell (j := 7) (by omega) HXA.out HYK.out rfl
            have x8 : w9.cell? ⟨q, k * 11 + 8, none⟩ = some (.int .i64 xdu1) := hK9.cell (j := 8) (by omega) HXA.out HYK.out rfl
            have g8 := hK9.row.frozenAt (k * 11 + 8)
            have z9 := (hK9.row.lt q rfl).2
            clear hK9 hown9 hg9
            refine hK.out _ _ ⟨⟨x0, x1, x3, x7⟩, z9⟩ (fun hHeld => ?_)
            clear hK K
            simp only [Act.put, List.getElem_toArray, List.getElem_cons_succ, List.getElem_cons_zero, List.setIfInBounds_toArray, List.set_cons_zero, List.set_cons_succ]
            refine wpAnyH_take (i := 28) (v := ?_) rfl (by kernel_rfl) (by kernel_rfl) (by kernel_rfl) (fun _ _ _ h => h) (Or.inl ⟨by rfl, ?_⟩) (by assumption) ?_
            rotate_left
            · intro w hSw
              (try dsimp only at hSw)
              go_simp
              first | done | with_reducible rfl
            simp only [Act.put, List.getElem_toArray, List.getElem_cons_succ, List.getElem_cons_zero, List.setIfInBounds_toArray, List.set_cons_zero, List.set_cons_succ]
            refine wpAnyH_done (by kernel_rfl) ?_ _
            refine NoPanic.normal ?_
            clear hHeld x0 x1 x3 x7 d0 d1 d3 d7 d8 d9 f8 zh
            have hak : ackI now ⟨xs1, xd1, xa1, xz1, xi1, xl1, xp1, xb1, xdu1, xt1, xf1⟩ = ⟨xs1, xd1, xa1, xz1, xi1, xl1, xp1, xb1, 0, xt1, xf1⟩ := if_pos HDD.out
            have hk9 := HK9.out
            rw [← HM.out] at hk9
            have HKS := Lib.hid (hk9.set (u := .int .i64 0) (x' := ⟨xs1, xd1, xa1, xz1, xi1, xl1, xp1, xb1, 0, xt1, xf1⟩) HX.out HYK.out rfl hak)
            rw [HM.out] at HKS
            clear hak hk9
            go_wp2_with fail
            go_roundw
            case rel => exact ⟨k + 1, by omega, by go_num, by rw [acksO_yes HX.out HDD.out, HT.out]; exact HKS.out⟩
            case measure => simp [intOf]; omega
    · have hkM : k = M := by omega
      subst hkM
      rw [← HM.out, List.take_length] at hK
      rw [HM.out] at hK
      have HKL := Lib.hid hK
      have hbw : Below W.heap.size W wr := hK.be
      have p0 := (H0.out.on hbw).cell (j := 0) rfl
      have p1 := (H0.out.on hbw).cell (j := 1) rfl
      have g0 := (H0.out.on hbw).free 0
      have g1 := (H0.out.on hbw).free 1
      have e0 := (H1.out.on hbw).cell (j := 0) rfl
      have e1 := (H1.out.on hbw).cell (j := 1) rfl
      have f0 := (H1.out.on hbw).free 0
      have f1 := (H1.out.on hbw).free 1
      have z0 := (H0.out.on hbw).lt
      have z1 := (H1.out.on hbw).lt
      have zW : w.heap.size + 1 < W.heap.size := H1.out.lt
      have HBW := Lib.hid hbw
      clear hK HK hbw
      go_wp2_with fail
      obtain ⟨Y, hY⟩ : ∃ Y, Y = wr.setCell ⟨w.heap.size, 1, none⟩ (.slice A9 k c9) := ⟨_, rfl⟩
      have hY1 : Box Y (w.heap.size + 1) [.slice none 0 0, .slice none 0 0] := by rw [hY]; exact (H1.out.on HBW.out).far (show w.heap.size + 1 ≠ w.heap.size by omega) _
      have hYB : Below w.heap.size wr Y := by rw [hY]; exact (Below.refl w.heap.size wr).setCell (p := ⟨w.heap.size, 1, none⟩) (Nat.le_refl _) _
      have hYR : Y.ownsRow W.heap.size 95 11 (.slice A9 k c9) is.length (flat2 inCs (acksAt is now k) ys) := by rw [hY]; exact own_far HKL.out.row (by omega) 1 _
      have hYO : OwnOutw Y W.heap.size u7 (acksO is now) := by rw [hY]; exact HKL.out.out.far (by omega) 1 _
      rw [← hY]
      clear hY
      obtain ⟨Z, hZ⟩ : ∃ Z, Z = Y.setCells (w.heap.size + 1) 0 [.slice A1 N c1, .slice A9 k c9] := ⟨_, rfl⟩
      have hZ1 : Box Z (w.heap.size + 1) [.slice A1 N c1, .slice A9 k c9] := by rw [hZ]; exact hY1.put _ rfl
      have hZB : Below w.heap.size wr Z := by rw [hZ]; exact below_puts (b := w.heap.size + 1) (Nat.le_succ _) 0 _ hYB
      have hZR : Z.ownsRow W.heap.size 95 11 (.slice A9 k c9) is.length (flat2 inCs (acksAt is now k) ys) := by rw [hZ]; exact own_far (own_far hYR zW 0 _) zW 1 _
      have hZO : OwnOutw Z W.heap.size u7 (acksO is now) := by rw [hZ]; exact (hYO.far zW 0 _).far zW 1 _
      rw [show (Y.setCell ⟨w.heap.size + 1, 0, none⟩ (.slice A1 N c1)).setCell ⟨w.heap.size + 1, 1, none⟩ (.slice A9 k c9) = Z from hZ.symm]
      clear hZ
      have hwZ : Below w.heap.size w Z := (HA.out.trans (HBW.out.mono HA.out.size)).trans hZB
      refine bodyPost_ret (res_tr2 rfl _ _ (w.heap.size + 1) (.slice A1 N c1) (.slice A9 k c9) rfl hZ1) rfl (HQ.out _ _ ⟨hwZ, _, _, _, rfl, HV.out.on hwZ, ⟨ys, ?_, ?_, fun i x u hx hu => ?_⟩, ?_⟩)
      · rw [HKL.out.len]; simp [acksI]
      · have e1 : acksAt is now k = acksI is now := by rw [← HM.out]; exact acksAt_all is now
        rw [e1] at hZR
        rw [show (acksI is now).length = is.length by simp [acksI]]
        exact Sl.of_own hZR
      · obtain ⟨y, hy, rfl⟩ : ∃ y, is[i]? = some y ∧ ackI now y = x := by
          unfold acksI at hx
          rw [List.getElem?_map] at hx
          cases hq : is[i]? with
          | none => rw [hq] at hx; cases hx
          | some y => rw [hq] at hx; exact ⟨y, rfl, by simpa using hx⟩
        rw [ackI_parts]
        exact ((HKL.out.parts i y u hy hu).below hZB).more hwZ.size
      · exact hZO.reads

/-- What the reference's Again leaves. -/
def RAgainPost (os : List OutS) (is : List InS) (now : Int) (w : World) (e : Ending) (w' : World) : Prop :=
  Below w.heap.size w w' ∧ ∃ v u x y, e = .returned (.tuple #[.agg #[v, u], x, y]) ∧ RowV outCs 10 OutS.parts w' w'.heap.size v (againO os now) ∧ RowV inCs 11 InS.parts w' w'.heap.size u is ∧ OutwsV w' w'.heap.size x (againA os now) ∧ Sl w' w'.heap.size 1 y (againL os now).length (u16s (againL os now))
/-- The three rows in the making. -/
structure RgSt (w W wr : World) (B : Nat) (v7 v8 v9 : Value) (O : List OutS) (A : List Outw) (L : List Nat) : Prop where
  o : MixP outCs 10 OutS.parts 75 wr (fun b => b < w.heap.size) B v7 O
  a : OwnOutw wr B v8 A
  l : wr.ownsRow B 39 1 v9 L.length (u16s L)
  be : Below B W wr
  lt : w.heap.size ≤ B ∧ B ≤ wr.heap.size
section
variable {w W wr w' w9 : World} {B : Nat} {v7 v8 v9 v x u : Value} {O : List OutS} {A : List Outw} {L : List Nat} {vs : List Value} {n : Nat}
theorem mixP_grown {α : Type} {f : α → Value → List Value} {m : Nat} {pf : α → List (List UInt8)} {t : TypeId} {P : Nat → Prop} {os : List α} {base base' size' n' : Nat} {e' : TypeId} {v y : Value} {ys : List Value} {w w' : World} (h : MixP f m pf t w P base v os) (h' : w.ownsRow base' e' size' y n' ys) (hne : t ≠ e') (hg : w.grownBy w' y.ownBlock) (hP : ∀ b, P b → b < base') (hb : base' ≤ w.heap.size) : MixP f m pf t w' P base v os := by
  obtain ⟨vs, k1, k2, k3⟩ := h
  exact ⟨vs, k1, own_grown_ty k2 h' hne hg, fun k o u ho hu => partsP_below (k3 k o u ho hu) (below_app (Below.refl _ _) h' hg (Nat.le_refl _) hb) hP⟩
theorem RgSt.on (h : RgSt w W wr B v7 v8 v9 O A L) (hb : Below wr.heap.size wr w') : RgSt w W w' B v7 v8 v9 O A L := by
  obtain ⟨vs, k1, k2, k3⟩ := h.o
  exact ⟨⟨vs, k1, own_on k2 hb, fun k o u ho hu => partsP_below (k3 k o u ho hu) hb fun b hb' => by have := h.lt; omega⟩, h.a.on hb, own_on h.l hb, h.be.trans (hb.mono h.lt.2), ⟨h.lt.1, Nat.le_trans h.lt.2 hb.size⟩⟩
theorem RgSt.addO (h : RgSt w W wr B v7 v8 v9 O A L) {o : OutS} (hl : vs.length = O.length) (hn : n = O.length) (h2 : wr.ownsRow B 75 10 v7 n (flat2 outCs O vs)) (h3 : ∀ (k : Nat) o u, O[k]? = some o → vs[k]? = some u → PartsP wr (fun b => b < w.heap.size) u (OutS.parts o))
    (hx : PartsP wr (fun b => b < w.heap.size) x o.parts) (hr : w9.ownsRow B 75 10 v (n + 1) (flat2 outCs O vs ++ outCs o x)) (hg : wr.grownBy w9 v7.ownBlock) : RgSt w W w9 B v v8 v9 (O ++ [o]) A L := by
  have hb : Below B wr w9 := below_app (Below.refl _ _) h2 hg (Nat.le_refl _) h.lt.2
  exact ⟨MixP.snoc hl hn h2 h3 hx hr hg (fun b hb' => by have := h.lt; omega) h.lt.2, h.a.grown h2 (by decide) (by decide) hg, own_grown_ty h.l h2 (by decide) hg, h.be.trans hb, ⟨h.lt.1, Nat.le_trans h.lt.2 hb.size⟩⟩
theorem RgSt.addA (h : RgSt w W wr B v7 v8 v9 O A L) {p : Outw} (hl : vs.length = A.length) (hn : n = A.length) (hrow : wr.ownsRow B 65 13 v8 n (flat2 owF A vs)) (hob : ∀ (i : Nat) p u, A[i]? = some p → vs[i]? = some u → OB wr B u p.2) (hu : OB wr B u p.2)
    (hr : w9.ownsRow B 65 13 v (n + 1) (flat2 owF A vs ++ owF p u)) (hg : wr.grownBy w9 v8.ownBlock) : RgSt w W w9 B v7 v v9 O (A ++ [p]) L := by
  have hb : Below B wr w9 := below_app (Below.refl _ _) hrow hg (Nat.le_refl _) h.lt.2
  exact ⟨mixP_grown h.o hrow (by decide) hg (fun b hb' => by have := h.lt; omega) h.lt.2, ownM_snoc hl hn (by decide) hrow hob hu hr hg, own_grown_ty h.l hrow (by decide) hg, h.be.trans hb, ⟨h.lt.1, Nat.le_trans h.lt.2 hb.size⟩⟩
theorem RgSt.addL (h : RgSt w W wr B v7 v8 v9 O A L) {d : Nat} (hr : w9.ownsRow B 39 1 v (L.length + 1) (u16s L ++ [.int .u16 (d : Int)])) (hg : wr.grownBy w9 v9.ownBlock) : RgSt w W w9 B v7 v8 v O A (L ++ [d]) := by
  have hb : Below B wr w9 := below_app (Below.refl _ _) h.l hg (Nat.le_refl _) h.lt.2
  refine ⟨mixP_grown h.o h.l (by decide) hg (fun b hb' => by have := h.lt; omega) h.lt.2, h.a.grown h.l (by decide) (by decide) hg, ?_, h.be.trans hb, ⟨h.lt.1, Nat.le_trans h.lt.2 hb.size⟩⟩
  rw [u16s_append, List.length_append]
  exact hr
/-- A variable that holds a message is written. -/
theorem RgSt.boxed (h : RgSt w W wr B v7 v8 v9 O A L) {bm : Nat} {cs : List Value} (hT : BT wr bm 75 cs) (hb : B ≤ bm) (hl : cs.length = 10) (h7 : some bm ≠ v7.ownBlock) (j : Nat) (y : Value) : RgSt w W (wr.setCell ⟨bm, j, none⟩ y) B v7 v8 v9 O A L := by
  have hrow := hT.row hb hl
  have hg := (hrow.stored j y).2
  have hbb : Below B wr (wr.setCell ⟨bm, j, none⟩ y) := (Below.refl _ _).setCell (p := ⟨bm, j, none⟩) hb _
  obtain ⟨vs, k1, k2, k3⟩ := h.o
  refine ⟨⟨vs, k1, own_apart k2 hg fun g hg' => fun he => h7 (by rw [hg']; exact he.symm), fun k o u ho hu => partsP_below (k3 k o u ho hu) hbb fun b hb' => by have := h.lt; omega⟩, h.a.grown hrow (by decide) (by decide) hg, own_grown_ty h.l hrow (by decide) hg, h.be.trans hbb, ⟨h.lt.1, by simpa using h.lt.2⟩⟩
end
set_option maxRecDepth 100000 in
set_option maxHeartbeats 16000000 in
theorem ragain_any (os : List OutS) (is : List InS) (now : Int) (v u : Value) (w : World) (hv : RowV outCs 10 OutS.parts w w.heap.size v os) (hu : RowV inCs 11 InS.parts w w.heap.size u is) (ho : os.length ≤ 65536) (hwf : ∀ o ∈ os, WfO o) (hnow : 0 ≤ now) (hnow2 : now ≤ 4611686018427387904) :
    Calls Try.prog 53 #[.agg #[v, u], .int .i64 now] w (RAgainPost os is now w) := by
  obtain ⟨A1, c1, rfl⟩ := rowV_form hv
  obtain ⟨A2, c2, rfl⟩ := rowV_form hu
  have HVP := Lib.hid (rowV_P hv)
  have HU := Lib.hid hu
  have HWF := Lib.hid hwf
  have HQ := Lib.hid (show ∀ (e : Ending) (w' : World) (v u x y : Value), e = .returned (.tuple #[.agg #[v, u], x, y]) → Below w.heap.size w w' → RowV outCs 10 OutS.parts w' w'.heap.size v (againO os now) → RowV inCs 11 InS.parts w' w'.heap.size u is → OutwsV w' w'.heap.size x (againA os now) → Sl w' w'.heap.size 1 y (againL os now).length (u16s (againL os now)) → RAgainPost os is now w e w' from fun e w' v u x y h1 h2 h3 h4 h5 h6 => ⟨h2, v, u, x, y, h1, h3, h4, h5, h6⟩)
  generalize RAgainPost os is now w = Q at *
  generalize hN : os.length = N at *
  generalize hM : is.length = M at *
  have HN := Lib.hid hN
  clear hN hM hv hu hwf
  go_enter Try.func53, Try.ntmps53
  go_upto_region 1 with fail
  obtain ⟨W, hW⟩ : ∃ W, W = (w.alloc (.cells #[.slice A1 N c1, .slice A2 M c2] 47)).alloc (.cells #[.slice none 0 0, .slice none 0 0] 47) := ⟨_, rfl⟩
  have hA : Below w.heap.size w W := by rw [hW]; exact al2 _ _ _
  have hb0 : Box W w.heap.size [.slice A1 N c1, .slice A2 M c2] := by rw [hW]; exact (Box.new _ _ _).alloc _
  have hb1 : Box W (w.heap.size + 1) [.slice none 0 0, .slice none 0 0] := ⟨47, by rw [hW, heap_al, if_pos (by simp)]⟩
  rw [← hW]
  clear hW
  have HA := Lib.hid hA
  have H0 := Lib.hid hb0
  have H1 := Lib.hid hb1
  clear hA hb0 hb1
  go_wp2_with fail
  have HST := Lib.hid (show RgSt w W (W.alloc (.cells #[] 75)) W.heap.size (.slice (some ⟨W.heap.size, 0, none⟩) 0 0) (.slice none 0 0) (.slice none 0 0) [] [] [] from
    ⟨⟨[], rfl, own_nil W _ 10, fun _ _ _ h => by simp at h⟩, OwnM.nil _ _, World.ownsRow_nil _ _ _ _, al1 _ _, ⟨HA.out.size, by simp⟩⟩)
  obtain ⟨B, hB⟩ : ∃ B, B = W.heap.size := ⟨_, rfl⟩
  have HBE := Lib.hid hB
  rw [← hB] at HST ⊢
  go_loopw [10, 7, 8, 9] (fun i v7 v8 v9 wr => ∃ k : Nat, k ≤ N ∧ i = .int .i64 k ∧ RgSt w W wr B v7 v8 v9 (againO (os.take k) now) (againA (os.take k) now) (againL (os.take k) now)) (fun i _ _ _ _ => N - (intOf i).toNat)
  case atStart => exact ⟨0, Nat.zero_le _, rfl, HST.out⟩
  clear HST hB
  have HL0 := Lib.hid (show w.heap.size < B by rw [HBE.out]; exact H0.out.lt)
  have HL1 := Lib.hid (show w.heap.size + 1 < B by rw [HBE.out]; exact H1.out.lt)
  case round =>
    obtain ⟨k, hk, rfl, hS⟩ := hrel
    have HS := Lib.hid hS
    have p0 := (H0.out.keep hS.be HL0.out).cell (j := 0) rfl
    have p1 := (H0.out.keep hS.be HL0.out).cell (j := 1) rfl
    have z0 := (H0.out.keep hS.be HL0.out).lt
    by_cases hlt : k < N
    · have hki : k < os.length := by rw [HN.out]; exact hlt
      have hx := List.getElem?_eq_getElem hki
      have hwx := HWF.out _ (List.getElem_mem hki)
      obtain ⟨b1, o1, cc, y1, hform, hB, hcell, hpv⟩ := rowP_cells outCs_len (by omega) HVP.out hx
      injection hform with hf1 hf2 hf3
      clear hf2
      subst hf1 hf3
      generalize os[k] = x at *
      have hx32 : x.parts.length ≤ 32 := hwx.2.1
      have HEA := Lib.hid (show againA (os.take (k + 1)) now = againA (os.take k) now ++ agA now x from flatMap_succ _ hx)
      have HEL := Lib.hid (show againL (os.take (k + 1)) now = againL (os.take k) now ++ agL now x from flatMap_succ _ hx)
      have HEO := Lib.hid (show againO (os.take (k + 1)) now = againO (os.take k) now ++ agO now x from flatMap_succ _ hx)
      have HLA := Lib.hid (show (againA (os.take k) now).length ≤ 32 * k from Nat.le_trans (flatMap_le _ 32 _ fun o ho => agA_len (HWF.out o (List.mem_of_mem_take ho)).2.1) (by rw [List.length_take]; omega))
      have HLL := Lib.hid (show (againL (os.take k) now).length ≤ 1 * k from Nat.le_trans (flatMap_le _ 1 _ fun o _ => agL_len now o) (by rw [List.length_take]; omega))
      have HLO := Lib.hid (show (againO (os.take k) now).length ≤ 1 * k from Nat.le_trans (flatMap_le _ 1 _ fun o _ => agO_len now o) (by rw [List.length_take]; omega))
      generalize againA (os.take k) now = A at *
      generalize againL (os.take k) now = L at *
      generalize againO (os.take k) now = O at *
      obtain ⟨A7, c7, rfl⟩ : ∃ A7 c7, y1 = .slice A7 x.parts.length c7 := by
        obtain ⟨_, _, ⟨A, c, h, _⟩, _⟩ := id hpv
        exact ⟨A, c, h⟩
      have HPX := Lib.hid hpv
      obtain ⟨x0, x1, x2, x3, x4, x5, x6, x7, x8, x9⟩ := x
      dsimp only at hx32 HPX
      have HBW := Lib.hid (show Below w.heap.size w wr from HA.out.trans (hS.be.mono hS.lt.1))
      have d0 : wr.cell? ⟨b1, o1 + k * 10, none⟩ = some (.int .u16 (x0 : Int)) := (HBW.out.cell (p := ⟨b1, _, none⟩) hB).trans (hcell 0 _ rfl)
      have d1 : wr.cell? ⟨b1, o1 + k * 10 + 1, none⟩ = some (.int .u16 (x1 : Int)) := (HBW.out.cell (p := ⟨b1, _, none⟩) hB).trans (hcell 1 _ rfl)
      have d2 : wr.cell? ⟨b1, o1 + k * 10 + 2, none⟩ = some (.bool x2) := (HBW.out.cell (p := ⟨b1, _, none⟩) hB).trans (hcell 2 _ rfl)
      have d3 : wr.cell? ⟨b1, o1 + k * 10 + 3, none⟩ = some (.int .u32 (x3 : Int)) := (HBW.out.cell (p := ⟨b1, _, none⟩) hB).trans (hcell 3 _ rfl)
      have d4 : wr.cell? ⟨b1, o1 + k * 10 + 4, none⟩ = some (.int .u32 (x4 : Int)) := (HBW.out.cell (p := ⟨b1, _, none⟩) hB).trans (hcell 4 _ rfl)
      have d5 : wr.cell? ⟨b1, o1 + k * 10 + 5, none⟩ = some (.slice A7 x5.length c7) := (HBW.out.cell (p := ⟨b1, _, none⟩) hB).trans (hcell 5 _ rfl)
      have d6 : wr.cell? ⟨b1, o1 + k * 10 + 6, none⟩ = some (.int .u32 (x6 : Int)) := (HBW.out.cell (p := ⟨b1, _, none⟩) hB).trans (hcell 6 _ rfl)
      have d7 : wr.cell? ⟨b1, o1 + k * 10 + 7, none⟩ = some (.int .i64 x7) := (HBW.out.cell (p := ⟨b1, _, none⟩) hB).trans (hcell 7 _ rfl)
      have d8 : wr.cell? ⟨b1, o1 + k * 10 + 8, none⟩ = some (.int .i64 x8) := (HBW.out.cell (p := ⟨b1, _, none⟩) hB).trans (hcell 8 _ rfl)
      have d9 : wr.cell? ⟨b1, o1 + k * 10 + 9, none⟩ = some (.int .i64 x9) := (HBW.out.cell (p := ⟨b1, _, none⟩) hB).trans (hcell 9 _ rfl)
      have hbz : b1 < wr.heap.size := by have := HBW.out.size; omega
      have i0 : (0 : Int) ≤ (k : Int) := by omega
      have iN : (k : Int) < (N : Int) := by omega
      clear hS hx hcell hpv
      go_upto_region 8 with fail
      obtain ⟨W1, hW1⟩ : ∃ W1, W1 = wr.alloc (.cells #[.int .u16 (x0 : Int), .int .u16 (x1 : Int), .bool x2, .int .u32 (x3 : Int), .int .u32 (x4 : Int), .slice A7 x5.length c7, .int .u32 (x6 : Int), .int .i64 x7, .int .i64 x8, .int .i64 x9] 75) := ⟨_, rfl⟩
      have HS1 := Lib.hid (show RgSt w W W1 B u7 u8 u9 O A L by rw [hW1]; exact HS.out.on (al1 _ _))
      have HT1 := Lib.hid (show BT W1 wr.heap.size 75 (outCs ⟨x0, x1, x2, x3, x4, x5, x6, x7, x8, x9⟩ (.slice A7 x5.length c7)) by rw [hW1]; exact BT.new wr (outCs ⟨x0, x1, x2, x3, x4, x5, x6, x7, x8, x9⟩ (.slice A7 x5.length c7)) 75)
      have HBM := Lib.hid (show B ≤ wr.heap.size from HS.out.lt.2)
      have HAP := Lib.hid (show some wr.heap.size ≠ u7.ownBlock from fun he => by
        obtain ⟨zs, _, z2, _⟩ := HS.out.o
        have := (z2.lt _ he.symm).2
        omega)
      rw [← hW1]
      clear hW1 d0 d1 d2 d3 d4 d5 d6 d7 d8 d9 HS hbz p0 p1 z0
      generalize wr.heap.size = bm at *
      have e0 := HT1.out.box.cell (j := 0) rfl
      have e7 := HT1.out.box.cell (j := 7) rfl
      have zb := HT1.out.box.lt
      dsimp only at e0 e7
      have HMO := Lib.hid (show mostT ⟨x0, x1, x2, x3, x4, x5, x6, x7, x8, x9⟩ = if isNode x0 = true then 6 else 3 from rfl)
      generalize hmo : mostT ⟨x0, x1, x2, x3, x4, x5, x6, x7, x8, x9⟩ = mo at *
      have CN := Lib.hid (fun W => rnode_any x0 W)
      have HAO := Lib.hid (show agO now ⟨x0, x1, x2, x3, x4, x5, x6, x7, x8, x9⟩ = if now < x7 then [⟨x0, x1, x2, x3, x4, x5, x6, x7, x8, x9⟩] else if x8 < mo then [⟨x0, x1, x2, x3, x4, x5, x6, now + 20, x8 + 1, x9⟩] else [] by rw [← hmo]; rfl)
      have HAA := Lib.hid (show agA now ⟨x0, x1, x2, x3, x4, x5, x6, x7, x8, x9⟩ = if now < x7 then [] else if x8 < mo then segsW ⟨x0, x1, x2, x3, x4, x5, x6, x7, x8, x9⟩ x5.length else [] by rw [← hmo]; rfl)
      have HAL := Lib.hid (show agL now ⟨x0, x1, x2, x3, x4, x5, x6, x7, x8, x9⟩ = if now < x7 then [] else if x8 < mo then [] else if isNode x0 = true then [x0] else [] by rw [← hmo]; rfl)
      rw [HAO.out] at HEO
      rw [HAA.out] at HEA
      rw [HAL.out] at HEL
      clear hmo HAO HAA HAL
      generalize isNode x0 = nd at *
      have hmo6 : mo = if nd = true then 6 else 3 := HMO.out
      clear HMO
      go_upto_region 9 with (first | (go_at_call 61; refine (CN.out _).mono ?_; rintro e w3 ⟨rfl, rfl⟩) | fail)
      by_cases hd : now < x7
      · have hd1 : decide (now < x7) = true := decide_eq_true hd
        rw [if_pos hd, List.append_nil] at HEA HEL
        rw [if_pos hd] at HEO
        clear hmo6 zb
        have e0 := HT1.out.box.cell (j := 0) rfl
        have e1 := HT1.out.box.cell (j := 1) rfl
        have e2 := HT1.out.box.cell (j := 2) rfl
        have e3 := HT1.out.box.cell (j := 3) rfl
        have e4 := HT1.out.box.cell (j := 4) rfl
        have e5 := HT1.out.box.cell (j := 5) rfl
        have e6 := HT1.out.box.cell (j := 6) rfl
        have e7 := HT1.out.box.cell (j := 7) rfl
        have e8 := HT1.out.box.cell (j := 8) rfl
        have e9 := HT1.out.box.cell (j := 9) rfl
        dsimp only at e0 e1 e2 e3 e4 e6 e7 e8 e9
        obtain ⟨zs, z1, z2, z3⟩ := HS1.out.o
        obtain ⟨A5, c5, rfl⟩ := own_form z2
        have HZ1 := Lib.hid z1
        have HZ2 := Lib.hid z2
        have HZ3 := Lib.hid z3
        have HBB := Lib.hid HS1.out.lt
        have zb := HT1.out.box.lt
        clear z1 z2 z3
        go_wp2_with (first
          | (at_builtin
             refine app_sl _ elO rfl (.tmp 34) (.tmp 36) rfl rfl (HZ2.out.alloc _) rfl (Sl.lit _ _ _ 1 rfl (by simp [maxLen])) ?_ ?_ ?_ ?_
             · exact outCs_one ⟨x0, x1, x2, x3, x4, x5, x6, x7, x8, x9⟩ rfl
             · have := HLO.out; omega
             · exact Nat.le_trans HBB.out.2 (by simp)
             intro v9' w9 hown9 hg9 hnil9 hat9
             have HS9 := Lib.hid ((HS1.out.on (al1 _ _)).addO (o := ⟨x0, x1, x2, x3, x4, x5, x6, x7, x8, x9⟩) HZ1.out rfl (HZ2.out.alloc _) (fun j o u ho hu => partsP_below (HZ3.out j o u ho hu) (al1 _ _) fun b hb' => by have := HBB.out; omega) (partsP_below HPX.out ((HA.out.trans (HS1.out.be.mono HBB.out.1)).trans ((al1 _ _).mono (Nat.le_trans HBB.out.1 HBB.out.2))) fun b hb' => hb') hown9 hg9)
             clear hown9 hg9 hnil9 hat9)
          | fail)
        go_roundw
        case rel => exact ⟨k + 1, by omega, by go_num, by rw [HEA.out, HEL.out, HEO.out]; exact HS9.out⟩
        case measure => simp [intOf]; omega
      · have hd1 : decide (now < x7) = false := decide_eq_false hd
        rw [if_neg hd] at HEA HEL HEO
        rcases nd with _ | _
        · by_cases ht : x8 < mo
          · have h3 : x8 < 3 := by rw [hmo6] at ht; simpa using ht
            have q3 : decide (3 ≤ x8) = false := decide_eq_false (by omega)
            clear hmo6
            rw [if_pos ht] at HEA HEL HEO
            rw [List.append_nil] at HEL
            have e5 := HT1.out.box.cell (j := 5) rfl
            have e8 := HT1.out.box.cell (j := 8) rfl
            have e0 := HT1.out.box.cell (j := 0) rfl
            have zb := HT1.out.box.lt
            dsimp only at e8 e0
            go_wp2_with fail
            go_loopw [13, 8] (fun i v8 wq => ∃ j : Nat, j ≤ x5.length ∧ i = .int .i64 j ∧ RgSt w W wq B u7 v8 u9 O (A ++ segsW ⟨x0, x1, x2, x3, x4, x5, x6, x7, x8, x9⟩ j) L ∧ BT wq bm 75 (outCs ⟨x0, x1, x2, x3, x4, x5, x6, x7, x8, x9⟩ (.slice A7 x5.length c7))) (fun i _ _ => x5.length - (intOf i).toNat)
            case atStart => exact ⟨0, Nat.zero_le _, rfl, by rw [segsW_zero, List.append_nil]; exact HS1.out, HT1.out⟩
            clear HS1 HT1 e5 e7 e8 e0 zb
            case round =>
              obtain ⟨j, hj, rfl, hS, hT⟩ := hrel
              obtain ⟨wq, rfl⟩ : ∃ wq : World, wq = wr := ⟨_, rfl⟩
              have HS2 := Lib.hid hS
              have HT2 := Lib.hid hT
              have e0 := hT.box.cell (j := 0) rfl
              have e1 := hT.box.cell (j := 1) rfl
              have e2 := hT.box.cell (j := 2) rfl
              have e3 := hT.box.cell (j := 3) rfl
              have e4 := hT.box.cell (j := 4) rfl
              have e5 := hT.box.cell (j := 5) rfl
              have e6 := hT.box.cell (j := 6) rfl
              have e7 := hT.box.cell (j := 7) rfl
              have e8 := hT.box.cell (j := 8) rfl
              have e9 := hT.box.cell (j := 9) rfl
              have zb := hT.box.lt
              dsimp only at e0 e1 e2 e3 e4 e6 e7 e8 e9
              by_cases hjl : j < x5.length
              · have CH := Lib.hid (fun W => rhas_any x6 j hwx.1 (by omega) W)
                have HHB := Lib.hid (show hasB x6 j = decide (x6 / 2 ^ j % 2 = 1) from rfl)
                by_cases h0 : x6 / 2 ^ j % 2 = 0
                · have hbv : hasB x6 j = false := by rw [HHB.out]; exact decide_eq_false (by omega)
                  rw [hbv] at CH
                  have HPW := Lib.hid (show PartsV wq wq.heap.size (.slice A7 x5.length c7) x5 from ((HPX.out.weak (B := w.heap.size) fun _ h => h).below (HA.out.trans (hS.be.mono hS.lt.1))).more (Nat.le_trans hS.lt.1 hS.lt.2))
                  have SG := Lib.hid (fun W1 (hW1 : Below wq.heap.size wq W1) => rsegment_any ⟨x0, x1, x2, x3, x4, x5, x6, x7, x8, x9⟩ j hjl (by show x5.length ≤ 65536; omega) hwx.2.2.1 hwx.2.2.2.2.2 (.slice A7 x5.length c7) W1 (HPW.out.on hW1))
                  unfold SegPost at SG
                  have hgB := hS.lt.2
                  obtain ⟨vs, k1, k2, k3⟩ := hS.a
                  obtain ⟨A5, c5, rfl⟩ := own_form k2
                  have hla : (A ++ segsW ⟨x0, x1, x2, x3, x4, x5, x6, x7, x8, x9⟩ j).length ≤ 32 * k + j := by
                    rw [List.length_append]
                    have := HLA.out
                    have := segsW_len ⟨x0, x1, x2, x3, x4, x5, x6, x7, x8, x9⟩ j
                    omega
                  generalize hln : (A ++ segsW ⟨x0, x1, x2, x3, x4, x5, x6, x7, x8, x9⟩ j).length = ln at *
                  have HLN := Lib.hid hln
                  have HLA1 := Lib.hid hla
                  have HU1 := Lib.hid k1
                  have HU2 := Lib.hid k2
                  have HU3 := Lib.hid k3
                  have HGB := Lib.hid hgB
                  have HHW := Lib.hid hwx
                  clear hS hT k1 k2 k3 hln hla hgB hwx hbv
                  go_upto_region 18 with (first | (go_at_call 67; refine (CH.out _).mono ?_; rintro e w4 ⟨rfl, rfl⟩) | fail)
                  refine wp_region_noPanic ?_
                  refine wp_region_held_drew (S := fun w' => (w'.cell? ⟨bm, 0, none⟩ = some (.int .u16 (x0 : Int)) ∧ w'.cell? ⟨bm, 1, none⟩ = some (.int .u16 (x1 : Int)) ∧ w'.cell? ⟨bm, 2, none⟩ = some (.bool x2) ∧ w'.cell? ⟨bm, 3, none⟩ = some (.int .u32 (x3 : Int)) ∧ w'.cell? ⟨bm, 4, none⟩ = some (.int .u32 (x4 : Int)) ∧ w'.cell? ⟨bm, 5, none⟩ = some (.slice A7 x5.length c7) ∧ w'.cell? ⟨bm, 6, none⟩ = some (.int .u32 (x6 : Int)) ∧ w'.cell? ⟨bm, 7, none⟩ = some (.int .i64 x7) ∧ w'.cell? ⟨bm, 8, none⟩ = some (.int .i64 x8) ∧ w'.cell? ⟨bm, 9, none⟩ = some (.int .i64 x9)) ∧ bm < w'.heap.size) (by kernel_rfl) (by (go_keep; try omega)) (fun hHeld => ?_)
                  refine wpAnyH_take (i := 0) (v := ?_) rfl (by kernel_rfl) (by kernel_rfl) (by kernel_rfl) (fun _ _ _ h => h) (Or.inl ⟨by rfl, ?_⟩) (by assumption) ?_
                  rotate_left
                  · intro w hSw
                    (try dsimp only at hSw)
                    go_simp
                    first | done | with_reducible rfl
                  simp only [Act.put, List.getElem_toArray, List.getElem_cons_zero, List.setIfInBounds_toArray, List.set_cons_zero, List.set_cons_succ]
                  refine wpAnyH_take (i := 1) (v := ?_) rfl (by kernel_rfl) (by kernel_rfl) (by kernel_rfl) (fun _ _ _ h => h) (Or.inl ⟨by rfl, ?_⟩) (by assumption) ?_
                  rotate_left
                  · intro w hSw
                    (try dsimp only at hSw)
                    go_simp
                    first | done | with_reducible rfl
                  simp only [Act.put, List.getElem_toArray, List.getElem_cons_succ, List.getElem_cons_zero, List.setIfInBounds_toArray, List.set_cons_zero, List.set_cons_succ]
                  refine wpAnyH_take (i := 2) (v := ?_) rfl (by kernel_rfl) (by kernel_rfl) (by kernel_rfl) (fun _ _ _ h => h) (Or.inl ⟨by rfl, ?_⟩) (by assumption) ?_
                  rotate_left
                  · intro w hSw
                    (try dsimp only at hSw)
                    go_simp
                    first | done | with_reducible rfl
                  simp only [Act.put, List.getElem_toArray, List.getElem_cons_succ, List.getElem_cons_zero, List.setIfInBounds_toArray, List.set_cons_zero, List.set_cons_succ]
                  refine wpAnyH_take (i := 3) (v := ?_) rfl (by kernel_rfl) (by kernel_rfl) (by kernel_rfl) (fun _ _ _ h => h) (Or.inl ⟨by rfl, ?_⟩) (by assumption) ?_
                  rotate_left
                  · intro w hSw
                    (try dsimp only at hSw)
                    go_simp
                    first | done | with_reducible rfl
                  simp only [Act.put, List.getElem_toArray, List.getElem_cons_succ, List.getElem_cons_zero, List.setIfInBounds_toArray, List.set_cons_zero, List.set_cons_succ]
                  refine wpAnyH_take (i := 4) (v := ?_) rfl (by kernel_rfl) (by kernel_rfl) (by kernel_rfl) (fun _ _ _ h => h) (Or.inl ⟨by rfl, ?_⟩) (by assumption) ?_
                  rotate_left
                  · intro w hSw
                    (try dsimp only at hSw)
                    go_simp
                    first | done | with_reducible rfl
                  simp only [Act.put, List.getElem_toArray, List.getElem_cons_succ, List.getElem_cons_zero, List.setIfInBounds_toArray, List.set_cons_zero, List.set_cons_succ]
                  refine wpAnyH_take (i := 5) (v := ?_) rfl (by kernel_rfl) (by kernel_rfl) (by kernel_rfl) (fun _ _ _ h => h) (Or.inl ⟨by rfl, ?_⟩) (by assumption) ?_
                  rotate_left
                  · intro w hSw
                    (try dsimp only at hSw)
                    go_simp
                    first | done | with_reducible rfl
                  simp only [Act.put, List.getElem_toArray, List.getElem_cons_succ, List.getElem_cons_zero, List.setIfInBounds_toArray, List.set_cons_zero, List.set_cons_succ]
                  refine wpAnyH_take (i := 6) (v := ?_) rfl (by kernel_rfl) (by kernel_rfl) (by kernel_rfl) (fun _ _ _ h => h) (Or.inl ⟨by rfl, ?_⟩) (by assumption) ?_
                  rotate_left
                  · intro w hSw
                    (try dsimp only at hSw)
                    go_simp
                    first | done | with_reducible rfl
                  simp only [Act.put, List.getElem_toArray, List.getElem_cons_succ, List.getElem_cons_zero, List.setIfInBounds_toArray, List.set_cons_zero, List.set_cons_succ]
                  refine wpAnyH_take (i := 7) (v := ?_) rfl (by kernel_rfl) (by kernel_rfl) (by kernel_rfl) (fun _ _ _ h => h) (Or.inl ⟨by rfl, ?_⟩) (by assumption) ?_
                  rotate_left
                  · intro w hSw
                    (try dsimp only at hSw)
                    go_simp
                    first | done | with_reducible rfl
                  simp only [Act.put, List.getElem_toArray, List.getElem_cons_succ, List.getElem_cons_zero, List.setIfInBounds_toArray, List.set_cons_zero, List.set_cons_succ]
                  refine wpAnyH_take (i := 8) (v := ?_) rfl (by kernel_rfl) (by kernel_rfl) (by kernel_rfl) (fun _ _ _ h => h) (Or.inl ⟨by rfl, ?_⟩) (by assumption) ?_
                  rotate_left
                  · intro w hSw
                    (try dsimp only at hSw)
                    go_simp
                    first | done | with_reducible rfl
                  simp only [Act.put, List.getElem_toArray, List.getElem_cons_succ, List.getElem_cons_zero, List.setIfInBounds_toArray, List.set_cons_zero, List.set_cons_succ]
                  refine wpAnyH_ready (rs := [9]) (by kernel_rfl) (by simp) ?_
                  refine AllReadyH.cons rfl (fun K hK => ?_) AllReadyH.nil
                  go_simp
                  refine (SG.out _ ((Below.refl _ _).drew)).mono ?_
                  rintro e w6 ⟨hb6, y, rfl, hy0⟩
                  obtain ⟨pj, hpj⟩ : ∃ pj, pj = List.getD x5 j [] := ⟨_, rfl⟩
                  have hy : OB w6 wq.drew.heap.size y pj := by rw [hpj]; exact hy0
                  have HPJ := Lib.hid hpj
                  clear hy0 hpj
                  obtain ⟨A9, c9, rfl⟩ := own_slice hy
                  have hb6w : Below wq.heap.size wq w6 := ((Below.refl _ _).drew).trans hb6
                  have HB6 := Lib.hid hb6w
                  have HS6 := Lib.hid (HS2.out.on hb6w)
                  have HT6 := Lib.hid (HT2.out.on hb6w)
                  have HY6 := Lib.hid (show w6.ownsRow wq.heap.size 5 1 (.slice A9 pj.length c9) pj.length (bys pj) from hy)
                  have g0 := HT6.out.box.cell (j := 0) rfl
                  have g1 := HT6.out.box.cell (j := 1) rfl
                  have g2 := HT6.out.box.cell (j := 2) rfl
                  have g3 := HT6.out.box.cell (j := 3) rfl
                  have g4 := HT6.out.box.cell (j := 4) rfl
                  have g5 := HT6.out.box.cell (j := 5) rfl
                  have g6 := HT6.out.box.cell (j := 6) rfl
                  have g7 := HT6.out.box.cell (j := 7) rfl
                  have g8 := HT6.out.box.cell (j := 8) rfl
                  have g9 := HT6.out.box.cell (j := 9) rfl
                  have gz := HT6.out.box.lt
                  dsimp only at g0 g1 g2 g3 g4 g6 g7 g8 g9
                  clear hb6 hb6w hy
                  first | (refine hK.out _ _ ?_ (fun hHeld => ?_)) | (go_wp2_with fail; refine hK.out _ _ ?_ (fun hHeld => ?_))
                  · (go_keep; try omega)
                  clear hK K
                  try simp only [Act.put, List.getElem_toArray, List.getElem_cons_succ, List.getElem_cons_zero, List.setIfInBounds_toArray, List.set_cons_zero, List.set_cons_succ]
                  refine wpAnyH_take (i := 10) (v := ?_) rfl (by kernel_rfl) (by kernel_rfl) (by kernel_rfl) (fun _ _ _ h => h) (Or.inl ⟨by rfl, ?_⟩) (by assumption) ?_
                  rotate_left
                  · intro w hSw
                    (try dsimp only at hSw)
                    go_simp
                    first | done | with_reducible rfl
                  simp only [Act.put, List.getElem_toArray, List.getElem_cons_succ, List.getElem_cons_zero, List.setIfInBounds_toArray, List.set_cons_zero, List.set_cons_succ]
                  refine wpAnyH_ready (rs := [11]) (by kernel_rfl) (by simp) ?_
                  refine AllReadyH.cons rfl (fun K hK => ?_) AllReadyH.nil
                  go_simp
                  first | (refine hK.out _ _ ?_ (fun hHeld => ?_)) | (go_wp2_with fail; refine hK.out _ _ ?_ (fun hHeld => ?_))
                  · (go_keep; try omega)
                  clear hK K
                  try simp only [Act.put, List.getElem_toArray, List.getElem_cons_succ, List.getElem_cons_zero, List.setIfInBounds_toArray, List.set_cons_zero, List.set_cons_succ]
                  refine wpAnyH_ready (rs := [12]) (by kernel_rfl) (by simp) ?_
                  refine AllReadyH.cons rfl (fun K hK => ?_) AllReadyH.nil
                  refine step_sl _ elOw rfl (.tmp 68) (.tmp 79) rfl rfl ((own_on HU2.out HB6.out).alloc _) rfl (Sl.lit _ _ _ 1 rfl (by simp [maxLen])) ?_ ?_ ?_ ?_
                  · exact owF_one (⟨x1, x0, x9, segL ⟨x0, x1, x2, x3, x4, x5, x6, x7, x8, x9⟩ j⟩, pj) rfl
                  · have := HLA1.out; omega
                  · exact Nat.le_trans HS6.out.lt.2 (by simp)
                  intro v9' w9 hown9 hg9 _ _
                  have hS9 := (HS6.out.on (al1 w6 _)).addA (p := (⟨x1, x0, x9, segL ⟨x0, x1, x2, x3, x4, x5, x6, x7, x8, x9⟩ j⟩, pj)) (u := .slice A9 pj.length c9) (by rw [HU1.out, HLN.out]) HLN.out.symm ((own_on HU2.out HB6.out).alloc _) (fun i p u hp hu => (own_on (HU3.out i p u hp hu) HB6.out).alloc _) (World.ownsRow.alloc (own_base HY6.out HGB.out) _) hown9 hg9
                  have hT9 := (HT6.out.on (al1 w6 _)).grown hg9 (BT.apart HT6.out (own_on HU2.out HB6.out) (by decide))
                  have HS9 := Lib.hid hS9
                  have HT9 := Lib.hid hT9
                  obtain ⟨A6, c6, rfl⟩ := own_form hown9
                  have k0 := hT9.box.cell (j := 0) rfl
                  have k1 := hT9.box.cell (j := 1) rfl
                  have k2 := hT9.box.cell (j := 2) rfl
                  have k3 := hT9.box.cell (j := 3) rfl
                  have k4 := hT9.box.cell (j := 4) rfl
                  have k5 := hT9.box.cell (j := 5) rfl
                  have k6 := hT9.box.cell (j := 6) rfl
                  have k7 := hT9.box.cell (j := 7) rfl
                  have k8 := hT9.box.cell (j := 8) rfl
                  have k9 := hT9.box.cell (j := 9) rfl
                  have kz := hT9.box.lt
                  dsimp only at k0 k1 k2 k3 k4 k6 k7 k8 k9
                  clear hS9 hT9 hown9 hg9
                  refine hK.out _ _ ⟨⟨k0, k1, k2, k3, k4, k5, k6, k7, k8, k9⟩, kz⟩ (fun hHeld => ?_)
                  clear hK K
                  simp only [Act.put, List.getElem_toArray, List.getElem_cons_succ, List.getElem_cons_zero, List.setIfInBounds_toArray, List.set_cons_zero, List.set_cons_succ]
                  refine wpAnyH_take (i := 13) (v := ?_) rfl (by kernel_rfl) (by kernel_rfl) (by kernel_rfl) (fun _ _ _ h => h) (Or.inl ⟨by rfl, ?_⟩) (by assumption) ?_
                  rotate_left
                  · intro w hSw
                    (try dsimp only at hSw)
                    go_simp
                    first | done | with_reducible rfl
                  simp only [Act.put, List.getElem_toArray, List.getElem_cons_succ, List.getElem_cons_zero, List.setIfInBounds_toArray, List.set_cons_zero, List.set_cons_succ]
                  refine wpAnyH_done (by kernel_rfl) ?_ _
                  refine NoPanic.normal ?_
                  clear hHeld g0 k0 g1 k1 g2 k2 g3 k3 g4 k4 g5 k5 g6 k6 g7 k7 g8 k8 g9 k9 gz kz SG
                  go_wp2_with fail
                  go_roundw
                  case rel => exact ⟨j + 1, by omega, by go_num, by rw [segsW_yes h0, ← List.append_assoc, show partW ⟨x0, x1, x2, x3, x4, x5, x6, x7, x8, x9⟩ j = (⟨x1, x0, x9, segL ⟨x0, x1, x2, x3, x4, x5, x6, x7, x8, x9⟩ j⟩, pj) by rw [HPJ.out]; rfl]; exact HS9.out, HT9.out⟩
                  case measure => simp [intOf]; omega
                · have hbv : hasB x6 j = true := by rw [HHB.out]; exact decide_eq_true (by omega)
                  rw [hbv] at CH
                  clear hS hT hbv
                  go_wp2_with (first | (go_at_call 67; refine (CH.out _).mono ?_; rintro e w4 ⟨rfl, rfl⟩) | fail)
                  go_roundw
                  case rel => exact ⟨j + 1, by omega, by go_num, by rw [segsW_no h0]; exact HS2.out, HT2.out⟩
                  case measure => simp [intOf]; omega
              · have hje : j = x5.length := by omega
                subst hje
                have hx8 := hwx.2.2.2.1
                have hx8' := hwx.2.2.2.2.1
                dsimp only at hx8 hx8'
                have hw1 : IntKind.i64.wrap (x8 + 1) = x8 + 1 := IntWalk.i64_in _ (by omega)
                have hw2 : IntKind.i64.wrap (now + 20) = now + 20 := IntWalk.i64_in _ (by omega)
                have f7 := hT.box.free 7
                have f8 := hT.box.free 8
                clear hS hT
                go_upto_region 21 with fail
                obtain ⟨V, hV⟩ : ∃ V, V = (wq.setCell ⟨bm, 8, none⟩ (.int .i64 (x8 + 1))).setCell ⟨bm, 7, none⟩ (.int .i64 (now + 20)) := ⟨_, rfl⟩
                have HTV := Lib.hid (show BT V bm 75 (outCs ⟨x0, x1, x2, x3, x4, x5, x6, now + 20, x8 + 1, x9⟩ (.slice A7 x5.length c7)) by rw [hV]; exact (HT2.out.set 8 _).set 7 _)
                have HSV := Lib.hid (show RgSt w W V B u7 u8 u9 O (A ++ segsW ⟨x0, x1, x2, x3, x4, x5, x6, x7, x8, x9⟩ x5.length) L by
                  rw [hV]
                  exact (HS2.out.boxed HT2.out HBM.out rfl HAP.out 8 _).boxed (HT2.out.set 8 _) HBM.out rfl HAP.out 7 _)
                rw [← hV]
                clear hV e0 e1 e2 e3 e4 e5 e6 e7 e8 e9 f7 f8 zb HT2 HS2 hw1 hw2
                have e0 := HTV.out.box.cell (j := 0) rfl
                have e1 := HTV.out.box.cell (j := 1) rfl
                have e2 := HTV.out.box.cell (j := 2) rfl
                have e3 := HTV.out.box.cell (j := 3) rfl
                have e4 := HTV.out.box.cell (j := 4) rfl
                have e5 := HTV.out.box.cell (j := 5) rfl
                have e6 := HTV.out.box.cell (j := 6) rfl
                have e7 := HTV.out.box.cell (j := 7) rfl
                have e8 := HTV.out.box.cell (j := 8) rfl
                have e9 := HTV.out.box.cell (j := 9) rfl
                dsimp only at e0 e1 e2 e3 e4 e6 e7 e8 e9
                obtain ⟨zs, z1, z2, z3⟩ := HSV.out.o
                obtain ⟨A5, c5, rfl⟩ := own_form z2
                have HZ1 := Lib.hid z1
                have HZ2 := Lib.hid z2
                have HZ3 := Lib.hid z3
                have HBB := Lib.hid HSV.out.lt
                have zb := HTV.out.box.lt
                clear z1 z2 z3
                go_wp2_with (first
                  | (at_builtin
                     refine app_sl _ elO rfl (.tmp 88) (.tmp 90) rfl rfl (HZ2.out.alloc _) rfl (Sl.lit _ _ _ 1 rfl (by simp [maxLen])) ?_ ?_ ?_ ?_
                     · exact outCs_one ⟨x0, x1, x2, x3, x4, x5, x6, now + 20, x8 + 1, x9⟩ rfl
                     · have := HLO.out; omega
                     · exact Nat.le_trans HBB.out.2 (by simp)
                     intro v9' w9 hown9 hg9 hnil9 hat9
                     have HS9 := Lib.hid ((HSV.out.on (al1 _ _)).addO (o := ⟨x0, x1, x2, x3, x4, x5, x6, now + 20, x8 + 1, x9⟩) HZ1.out rfl (HZ2.out.alloc _) (fun j o u ho hu => partsP_below (HZ3.out j o u ho hu) (al1 _ _) fun b hb' => by have := HBB.out; omega) (partsP_below HPX.out ((HA.out.trans (HSV.out.be.mono HBB.out.1)).trans ((al1 _ _).mono (Nat.le_trans HBB.out.1 HBB.out.2))) fun b hb' => hb') hown9 hg9)
                     clear hown9 hg9 hnil9 hat9)
                  | fail)
                go_roundw
                case rel => exact ⟨k + 1, by omega, by go_num, by rw [HEA.out, HEL.out, HEO.out]; exact HS9.out⟩
                case measure => simp [intOf]; omega
          · have h3 : 3 ≤ x8 := by rw [hmo6] at ht; simp at ht; omega
            have q3 : decide (3 ≤ x8) = true := decide_eq_true h3
            rw [if_neg ht] at HEA HEL HEO
            rw [List.append_nil] at HEA HEO
            rw [if_neg (by simp), List.append_nil] at HEL
            have e8 := HT1.out.box.cell (j := 8) rfl
            dsimp only at e8
            clear hmo6
            go_wp2_with fail
            go_roundw
            case rel => exact ⟨k + 1, by omega, by go_num, by rw [HEA.out, HEL.out, HEO.out]; exact HS1.out⟩
            case measure => simp [intOf]; omega
        · by_cases ht : x8 < mo
          · have h6 : x8 < 6 := by rw [hmo6] at ht; simpa using ht
            have q6 : decide (6 ≤ x8) = false := decide_eq_false (by omega)
            clear hmo6
            rw [if_pos ht] at HEA HEL HEO
            rw [List.append_nil] at HEL
            have e5 := HT1.out.box.cell (j := 5) rfl
            have e8 := HT1.out.box.cell (j := 8) rfl
            have e0 := HT1.out.box.cell (j := 0) rfl
            have zb := HT1.out.box.lt
            dsimp only at e8 e0
            go_wp2_with fail
            go_loopw [13, 8] (fun i v8 wq => ∃ j : Nat, j ≤ x5.length ∧ i = .int .i64 j ∧ RgSt w W wq B u7 v8 u9 O (A ++ segsW ⟨x0, x1, x2, x3, x4, x5, x6, x7, x8, x9⟩ j) L ∧ BT wq bm 75 (outCs ⟨x0, x1, x2, x3, x4, x5, x6, x7, x8, x9⟩ (.slice A7 x5.length c7))) (fun i _ _ => x5.length - (intOf i).toNat)
            case atStart => exact ⟨0, Nat.zero_le _, rfl, by rw [segsW_zero, List.append_nil]; exact HS1.out, HT1.out⟩
            clear HS1 HT1 e5 e7 e8 e0 zb
            case round =>
              obtain ⟨j, hj, rfl, hS, hT⟩ := hrel
              obtain ⟨wq, rfl⟩ : ∃ wq : World, wq = wr := ⟨_, rfl⟩
              have HS2 := Lib.hid hS
              have HT2 := Lib.hid hT
              have e0 := hT.box.cell (j := 0) rfl
              have e1 := hT.box.cell (j := 1) rfl
              have e2 := hT.box.cell (j := 2) rfl
              have e3 := hT.box.cell (j := 3) rfl
              have e4 := hT.box.cell (j := 4) rfl
              have e5 := hT.box.cell (j := 5) rfl
              have e6 := hT.box.cell (j := 6) rfl
              have e7 := hT.box.cell (j := 7) rfl
              have e8 := hT.box.cell (j := 8) rfl
              have e9 := hT.box.cell (j := 9) rfl
              have zb := hT.box.lt
              dsimp only at e0 e1 e2 e3 e4 e6 e7 e8 e9
              by_cases hjl : j < x5.length
              · have CH := Lib.hid (fun W => rhas_any x6 j hwx.1 (by omega) W)
                have HHB := Lib.hid (show hasB x6 j = decide (x6 / 2 ^ j % 2 = 1) from rfl)
                by_cases h0 : x6 / 2 ^ j % 2 = 0
                · have hbv : hasB x6 j = false := by rw [HHB.out]; exact decide_eq_false (by omega)
                  rw [hbv] at CH
                  have HPW := Lib.hid (show PartsV wq wq.heap.size (.slice A7 x5.length c7) x5 from ((HPX.out.weak (B := w.heap.size) fun _ h => h).below (HA.out.trans (hS.be.mono hS.lt.1))).more (Nat.le_trans hS.lt.1 hS.lt.2))
                  have SG := Lib.hid (fun W1 (hW1 : Below wq.heap.size wq W1) => rsegment_any ⟨x0, x1, x2, x3, x4, x5, x6, x7, x8, x9⟩ j hjl (by show x5.length ≤ 65536; omega) hwx.2.2.1 hwx.2.2.2.2.2 (.slice A7 x5.length c7) W1 (HPW.out.on hW1))
                  unfold SegPost at SG
                  have hgB := hS.lt.2
                  obtain ⟨vs, k1, k2, k3⟩ := hS.a
                  obtain ⟨A5, c5, rfl⟩ := own_form k2
                  have hla : (A ++ segsW ⟨x0, x1, x2, x3, x4, x5, x6, x7, x8, x9⟩ j).length ≤ 32 * k + j := by
                    rw [List.length_append]
                    have := HLA.out
                    have := segsW_len ⟨x0, x1, x2, x3, x4, x5, x6, x7, x8, x9⟩ j
                    omega
                  generalize hln : (A ++ segsW ⟨x0, x1, x2, x3, x4, x5, x6, x7, x8, x9⟩ j).length = ln at *
                  have HLN := Lib.hid hln
                  have HLA1 := Lib.hid hla
                  have HU1 := Lib.hid k1
                  have HU2 := Lib.hid k2
                  have HU3 := Lib.hid k3
                  have HGB := Lib.hid hgB
                  have HHW := Lib.hid hwx
                  clear hS hT k1 k2 k3 hln hla hgB hwx hbv
                  go_upto_region 18 with (first | (go_at_call 67; refine (CH.out _).mono ?_; rintro e w4 ⟨rfl, rfl⟩) | fail)
                  refine wp_region_noPanic ?_
                  refine wp_region_held_drew (S := fun w' => (w'.cell? ⟨bm, 0, none⟩ = some (.int .u16 (x0 : Int)) ∧ w'.cell? ⟨bm, 1, none⟩ = some (.int .u16 (x1 : Int)) ∧ w'.cell? ⟨bm, 2, none⟩ = some (.bool x2) ∧ w'.cell? ⟨bm, 3, none⟩ = some (.int .u32 (x3 : Int)) ∧ w'.cell? ⟨bm, 4, none⟩ = some (.int .u32 (x4 : Int)) ∧ w'.cell? ⟨bm, 5, none⟩ = some (.slice A7 x5.length c7) ∧ w'.cell? ⟨bm, 6, none⟩ = some (.int .u32 (x6 : Int)) ∧ w'.cell? ⟨bm, 7, none⟩ = some (.int .i64 x7) ∧ w'.cell? ⟨bm, 8, none⟩ = some (.int .i64 x8) ∧ w'.cell? ⟨bm, 9, none⟩ = some (.int .i64 x9)) ∧ bm < w'.heap.size) (by kernel_rfl) (by (go_keep; try omega)) (fun hHeld => ?_)
                  refine wpAnyH_take (i := 0) (v := ?_) rfl (by kernel_rfl) (by kernel_rfl) (by kernel_rfl) (fun _ _ _ h => h) (Or.inl ⟨by rfl, ?_⟩) (by assumption) ?_
                  rotate_left
                  · intro w hSw
                    (try dsimp only at hSw)
                    go_simp
                    first | done | with_reducible rfl
                  simp only [Act.put, List.getElem_toArray, List.getElem_cons_zero, List.setIfInBounds_toArray, List.set_cons_zero, List.set_cons_succ]
                  refine wpAnyH_take (i := 1) (v := ?_) rfl (by kernel_rfl) (by kernel_rfl) (by kernel_rfl) (fun _ _ _ h => h) (Or.inl ⟨by rfl, ?_⟩) (by assumption) ?_
                  rotate_left
                  · intro w hSw
                    (try dsimp only at hSw)
                    go_simp
                    first | done | with_reducible rfl
                  simp only [Act.put, List.getElem_toArray, List.getElem_cons_succ, List.getElem_cons_zero, List.setIfInBounds_toArray, List.set_cons_zero, List.set_cons_succ]
                  refine wpAnyH_take (i := 2) (v := ?_) rfl (by kernel_rfl) (by kernel_rfl) (by kernel_rfl) (fun _ _ _ h => h) (Or.inl ⟨by rfl, ?_⟩) (by assumption) ?_
                  rotate_left
                  · intro w hSw
                    (try dsimp only at hSw)
                    go_simp
                    first | done | with_reducible rfl
                  simp only [Act.put, List.getElem_toArray, List.getElem_cons_succ, List.getElem_cons_zero, List.setIfInBounds_toArray, List.set_cons_zero, List.set_cons_succ]
                  refine wpAnyH_take (i := 3) (v := ?_) rfl (by kernel_rfl) (by kernel_rfl) (by kernel_rfl) (fun _ _ _ h => h) (Or.inl ⟨by rfl, ?_⟩) (by assumption) ?_
                  rotate_left
                  · intro w hSw
                    (try dsimp only at hSw)
                    go_simp
                    first | done | with_reducible rfl
                  simp only [Act.put, List.getElem_toArray, List.getElem_cons_succ, List.getElem_cons_zero, List.setIfInBounds_toArray, List.set_cons_zero, List.set_cons_succ]
                  refine wpAnyH_take (i := 4) (v := ?_) rfl (by kernel_rfl) (by kernel_rfl) (by kernel_rfl) (fun _ _ _ h => h) (Or.inl ⟨by rfl, ?_⟩) (by assumption) ?_
                  rotate_left
                  · intro w hSw
                    (try dsimp only at hSw)
                    go_simp
                    first | done | with_reducible rfl
                  simp only [Act.put, List.getElem_toArray, List.getElem_cons_succ, List.getElem_cons_zero, List.setIfInBounds_toArray, List.set_cons_zero, List.set_cons_succ]
                  refine wpAnyH_take (i := 5) (v := ?_) rfl (by kernel_rfl) (by kernel_rfl) (by kernel_rfl) (fun _ _ _ h => h) (Or.inl ⟨by rfl, ?_⟩) (by assumption) ?_
                  rotate_left
                  · intro w hSw
                    (try dsimp only at hSw)
                    go_simp
                    first | done | with_reducible rfl
                  simp only [Act.put, List.getElem_toArray, List.getElem_cons_succ, List.getElem_cons_zero, List.setIfInBounds_toArray, List.set_cons_zero, List.set_cons_succ]
                  refine wpAnyH_take (i := 6) (v := ?_) rfl (by kernel_rfl) (by kernel_rfl) (by kernel_rfl) (fun _ _ _ h => h) (Or.inl ⟨by rfl, ?_⟩) (by assumption) ?_
                  rotate_left
                  · intro w hSw
                    (try dsimp only at hSw)
                    go_simp
                    first | done | with_reducible rfl
                  simp only [Act.put, List.getElem_toArray, List.getElem_cons_succ, List.getElem_cons_zero, List.setIfInBounds_toArray, List.set_cons_zero, List.set_cons_succ]
                  refine wpAnyH_take (i := 7) (v := ?_) rfl (by kernel_rfl) (by kernel_rfl) (by kernel_rfl) (fun _ _ _ h => h) (Or.inl ⟨by rfl, ?_⟩) (by assumption) ?_
                  rotate_left
                  · intro w hSw
                    (try dsimp only at hSw)
                    go_simp
                    first | done | with_reducible rfl
                  simp only [Act.put, List.getElem_toArray, List.getElem_cons_succ, List.getElem_cons_zero, List.setIfInBounds_toArray, List.set_cons_zero, List.set_cons_succ]
                  refine wpAnyH_take (i := 8) (v := ?_) rfl (by kernel_rfl) (by kernel_rfl) (by kernel_rfl) (fun _ _ _ h => h) (Or.inl ⟨by rfl, ?_⟩) (by assumption) ?_
                  rotate_left
                  · intro w hSw
                    (try dsimp only at hSw)
                    go_simp
                    first | done | with_reducible rfl
                  simp only [Act.put, List.getElem_toArray, List.getElem_cons_succ, List.getElem_cons_zero, List.setIfInBounds_toArray, List.set_cons_zero, List.set_cons_succ]
                  refine wpAnyH_ready (rs := [9]) (by kernel_rfl) (by simp) ?_
                  refine AllReadyH.cons rfl (fun K hK => ?_) AllReadyH.nil
                  go_simp
                  refine (SG.out _ ((Below.refl _ _).drew)).mono ?_
                  rintro e w6 ⟨hb6, y, rfl, hy0⟩
                  obtain ⟨pj, hpj⟩ : ∃ pj, pj = List.getD x5 j [] := ⟨_, rfl⟩
                  have hy : OB w6 wq.drew.heap.size y pj := by rw [hpj]; exact hy0
                  have HPJ := Lib.hid hpj
                  clear hy0 hpj
                  obtain ⟨A9, c9, rfl⟩ := own_slice hy
                  have hb6w : Below wq.heap.size wq w6 := ((Below.refl _ _).drew).trans hb6
                  have HB6 := Lib.hid hb6w
                  have HS6 := Lib.hid (HS2.out.on hb6w)
                  have HT6 := Lib.hid (HT2.out.on hb6w)
                  have HY6 := Lib.hid (show w6.ownsRow wq.heap.size 5 1 (.slice A9 pj.length c9) pj.length (bys pj) from hy)
                  have g0 := HT6.out.box.cell (j := 0) rfl
                  have g1 := HT6.out.box.cell (j := 1) rfl
                  have g2 := HT6.out.box.cell (j := 2) rfl
                  have g3 := HT6.out.box.cell (j := 3) rfl
                  have g4 := HT6.out.box.cell (j := 4) rfl
                  have g5 := HT6.out.box.cell (j := 5) rfl
                  have g6 := HT6.out.box.cell (j := 6) rfl
                  have g7 := HT6.out.box.cell (j := 7) rfl
                  have g8 := HT6.out.box.cell (j := 8) rfl
                  have g9 := HT6.out.box.cell (j := 9) rfl
                  have gz := HT6.out.box.lt
                  dsimp only at g0 g1 g2 g3 g4 g6 g7 g8 g9
                  clear hb6 hb6w hy
                  first | (refine hK.out _ _ ?_ (fun hHeld => ?_)) | (go_wp2_with fail; refine hK.out _ _ ?_ (fun hHeld => ?_))
                  · (go_keep; try omega)
                  clear hK K
                  try simp only [Act.put, List.getElem_toArray, List.getElem_cons_succ, List.getElem_cons_zero, List.setIfInBounds_toArray, List.set_cons_zero, List.set_cons_succ]
                  refine wpAnyH_take (i := 10) (v := ?_) rfl (by kernel_rfl) (by kernel_rfl) (by kernel_rfl) (fun _ _ _ h => h) (Or.inl ⟨by rfl, ?_⟩) (by assumption) ?_
                  rotate_left
                  · intro w hSw
                    (try dsimp only at hSw)
                    go_simp
                    first | done | with_reducible rfl
                  simp only [Act.put, List.getElem_toArray, List.getElem_cons_succ, List.getElem_cons_zero, List.setIfInBounds_toArray, List.set_cons_zero, List.set_cons_succ]
                  refine wpAnyH_ready (rs := [11]) (by kernel_rfl) (by simp) ?_
                  refine AllReadyH.cons rfl (fun K hK => ?_) AllReadyH.nil
                  go_simp
                  first | (refine hK.out _ _ ?_ (fun hHeld => ?_)) | (go_wp2_with fail; refine hK.out _ _ ?_ (fun hHeld => ?_))
                  · (go_keep; try omega)
                  clear hK K
                  try simp only [Act.put, List.getElem_toArray, List.getElem_cons_succ, List.getElem_cons_zero, List.setIfInBounds_toArray, List.set_cons_zero, List.set_cons_succ]
                  refine wpAnyH_ready (rs := [12]) (by kernel_rfl) (by simp) ?_
                  refine AllReadyH.cons rfl (fun K hK => ?_) AllReadyH.nil
                  refine step_sl _ elOw rfl (.tmp 68) (.tmp 79) rfl rfl ((own_on HU2.out HB6.out).alloc _) rfl (Sl.lit _ _ _ 1 rfl (by simp [maxLen])) ?_ ?_ ?_ ?_
                  · exact owF_one (⟨x1, x0, x9, segL ⟨x0, x1, x2, x3, x4, x5, x6, x7, x8, x9⟩ j⟩, pj) rfl
                  · have := HLA1.out; omega
                  · exact Nat.le_trans HS6.out.lt.2 (by simp)
                  intro v9' w9 hown9 hg9 _ _
                  have hS9 := (HS6.out.on (al1 w6 _)).addA (p := (⟨x1, x0, x9, segL ⟨x0, x1, x2, x3, x4, x5, x6, x7, x8, x9⟩ j⟩, pj)) (u := .slice A9 pj.length c9) (by rw [HU1.out, HLN.out]) HLN.out.symm ((own_on HU2.out HB6.out).alloc _) (fun i p u hp hu => (own_on (HU3.out i p u hp hu) HB6.out).alloc _) (World.ownsRow.alloc (own_base HY6.out HGB.out) _) hown9 hg9
                  have hT9 := (HT6.out.on (al1 w6 _)).grown hg9 (BT.apart HT6.out (own_on HU2.out HB6.out) (by decide))
                  have HS9 := Lib.hid hS9
                  have HT9 := Lib.hid hT9
                  obtain ⟨A6, c6, rfl⟩ := own_form hown9
                  have k0 := hT9.box.cell (j := 0) rfl
                  have k1 := hT9.box.cell (j := 1) rfl
                  have k2 := hT9.box.cell (j := 2) rfl
                  have k3 := hT9.box.cell (j := 3) rfl
                  have k4 := hT9.box.cell (j := 4) rfl
                  have k5 := hT9.box.cell (j := 5) rfl
                  have k6 := hT9.box.cell (j := 6) rfl
                  have k7 := hT9.box.cell (j := 7) rfl
                  have k8 := hT9.box.cell (j := 8) rfl
                  have k9 := hT9.box.cell (j := 9) rfl
                  have kz := hT9.box.lt
                  dsimp only at k0 k1 k2 k3 k4 k6 k7 k8 k9
                  clear hS9 hT9 hown9 hg9
                  refine hK.out _ _ ⟨⟨k0, k1, k2, k3, k4, k5, k6, k7, k8, k9⟩, kz⟩ (fun hHeld => ?_)
                  clear hK K
                  simp only [Act.put, List.getElem_toArray, List.getElem_cons_succ, List.getElem_cons_zero, List.setIfInBounds_toArray, List.set_cons_zero, List.set_cons_succ]
                  refine wpAnyH_take (i := 13) (v := ?_) rfl (by kernel_rfl) (by kernel_rfl) (by kernel_rfl) (fun _ _ _ h => h) (Or.inl ⟨by rfl, ?_⟩) (by assumption) ?_
                  rotate_left
                  · intro w hSw
                    (try dsimp only at hSw)
                    go_simp
                    first | done | with_reducible rfl
                  simp only [Act.put, List.getElem_toArray, List.getElem_cons_succ, List.getElem_cons_zero, List.setIfInBounds_toArray, List.set_cons_zero, List.set_cons_succ]
                  refine wpAnyH_done (by kernel_rfl) ?_ _
                  refine NoPanic.normal ?_
                  clear hHeld g0 k0 g1 k1 g2 k2 g3 k3 g4 k4 g5 k5 g6 k6 g7 k7 g8 k8 g9 k9 gz kz SG
                  go_wp2_with fail
                  go_roundw
                  case rel => exact ⟨j + 1, by omega, by go_num, by rw [segsW_yes h0, ← List.append_assoc, show partW ⟨x0, x1, x2, x3, x4, x5, x6, x7, x8, x9⟩ j = (⟨x1, x0, x9, segL ⟨x0, x1, x2, x3, x4, x5, x6, x7, x8, x9⟩ j⟩, pj) by rw [HPJ.out]; rfl]; exact HS9.out, HT9.out⟩
                  case measure => simp [intOf]; omega
                · have hbv : hasB x6 j = true := by rw [HHB.out]; exact decide_eq_true (by omega)
                  rw [hbv] at CH
                  clear hS hT hbv
                  go_wp2_with (first | (go_at_call 67; refine (CH.out _).mono ?_; rintro e w4 ⟨rfl, rfl⟩) | fail)
                  go_roundw
                  case rel => exact ⟨j + 1, by omega, by go_num, by rw [segsW_no h0]; exact HS2.out, HT2.out⟩
                  case measure => simp [intOf]; omega
              · have hje : j = x5.length := by omega
                subst hje
                have hx8 := hwx.2.2.2.1
                have hx8' := hwx.2.2.2.2.1
                dsimp only at hx8 hx8'
                have hw1 : IntKind.i64.wrap (x8 + 1) = x8 + 1 := IntWalk.i64_in _ (by omega)
                have hw2 : IntKind.i64.wrap (now + 20) = now + 20 := IntWalk.i64_in _ (by omega)
                have f7 := hT.box.free 7
                have f8 := hT.box.free 8
                clear hS hT
                go_upto_region 21 with fail
                obtain ⟨V, hV⟩ : ∃ V, V = (wq.setCell ⟨bm, 8, none⟩ (.int .i64 (x8 + 1))).setCell ⟨bm, 7, none⟩ (.int .i64 (now + 20)) := ⟨_, rfl⟩
                have HTV := Lib.hid (show BT V bm 75 (outCs ⟨x0, x1, x2, x3, x4, x5, x6, now + 20, x8 + 1, x9⟩ (.slice A7 x5.length c7)) by rw [hV]; exact (HT2.out.set 8 _).set 7 _)
                have HSV := Lib.hid (show RgSt w W V B u7 u8 u9 O (A ++ segsW ⟨x0, x1, x2, x3, x4, x5, x6, x7, x8, x9⟩ x5.length) L by
                  rw [hV]
                  exact (HS2.out.boxed HT2.out HBM.out rfl HAP.out 8 _).boxed (HT2.out.set 8 _) HBM.out rfl HAP.out 7 _)
                rw [← hV]
                clear hV e0 e1 e2 e3 e4 e5 e6 e7 e8 e9 f7 f8 zb HT2 HS2 hw1 hw2
                have e0 := HTV.out.box.cell (j := 0) rfl
                have e1 := HTV.out.box.cell (j := 1) rfl
                have e2 := HTV.out.box.cell (j := 2) rfl
                have e3 := HTV.out.box.cell (j := 3) rfl
                have e4 := HTV.out.box.cell (j := 4) rfl
                have e5 := HTV.out.box.cell (j := 5) rfl
                have e6 := HTV.out.box.cell (j := 6) rfl
                have e7 := HTV.out.box.cell (j := 7) rfl
                have e8 := HTV.out.box.cell (j := 8) rfl
                have e9 := HTV.out.box.cell (j := 9) rfl
                dsimp only at e0 e1 e2 e3 e4 e6 e7 e8 e9
                obtain ⟨zs, z1, z2, z3⟩ := HSV.out.o
                obtain ⟨A5, c5, rfl⟩ := own_form z2
                have HZ1 := Lib.hid z1
                have HZ2 := Lib.hid z2
                have HZ3 := Lib.hid z3
                have HBB := Lib.hid HSV.out.lt
                have zb := HTV.out.box.lt
                clear z1 z2 z3
                go_wp2_with (first
                  | (at_builtin
                     refine app_sl _ elO rfl (.tmp 88) (.tmp 90) rfl rfl (HZ2.out.alloc _) rfl (Sl.lit _ _ _ 1 rfl (by simp [maxLen])) ?_ ?_ ?_ ?_
                     · exact outCs_one ⟨x0, x1, x2, x3, x4, x5, x6, now + 20, x8 + 1, x9⟩ rfl
                     · have := HLO.out; omega
                     · exact Nat.le_trans HBB.out.2 (by simp)
                     intro v9' w9 hown9 hg9 hnil9 hat9
                     have HS9 := Lib.hid ((HSV.out.on (al1 _ _)).addO (o := ⟨x0, x1, x2, x3, x4, x5, x6, now + 20, x8 + 1, x9⟩) HZ1.out rfl (HZ2.out.alloc _) (fun j o u ho hu => partsP_below (HZ3.out j o u ho hu) (al1 _ _) fun b hb' => by have := HBB.out; omega) (partsP_below HPX.out ((HA.out.trans (HSV.out.be.mono HBB.out.1)).trans ((al1 _ _).mono (Nat.le_trans HBB.out.1 HBB.out.2))) fun b hb' => hb') hown9 hg9)
                     clear hown9 hg9 hnil9 hat9)
                  | fail)
                go_roundw
                case rel => exact ⟨k + 1, by omega, by go_num, by rw [HEA.out, HEL.out, HEO.out]; exact HS9.out⟩
                case measure => simp [intOf]; omega
          · have h6 : 6 ≤ x8 := by rw [hmo6] at ht; simp at ht; omega
            have q6 : decide (6 ≤ x8) = true := decide_eq_true h6
            rw [if_neg ht] at HEA HEL HEO
            rw [List.append_nil] at HEA HEO
            rw [if_pos rfl] at HEL
            have e8 := HT1.out.box.cell (j := 8) rfl
            dsimp only at e8
            have hl1 := HS1.out.l
            obtain ⟨A6, c6, rfl⟩ := own_form hl1
            have HL1 := Lib.hid hl1
            have HBB := Lib.hid HS1.out.lt
            clear hl1 hmo6
            go_wp2_with (first
              | (at_builtin
                 refine app_sl _ elU rfl (.tmp 44) (.tmp 47) rfl rfl (HL1.out.alloc _) rfl (Sl.lit _ _ _ 1 rfl (by simp [maxLen])) ?_ ?_ ?_ ?_
                 · intro u hu; simp at hu; subst hu; rfl
                 · have := HLL.out; omega
                 · exact Nat.le_trans HBB.out.2 (by simp)
                 intro v9' w9 hown9 hg9 hnil9 hat9
                 have HS9 := Lib.hid ((HS1.out.on (al1 _ _)).addL hown9 hg9)
                 clear hown9 hg9 hnil9 hat9)
              | fail)
            go_roundw
            case rel => exact ⟨k + 1, by omega, by go_num, by rw [HEA.out, HEL.out, HEO.out]; exact HS9.out⟩
            case measure => simp [intOf]; omega
    · have hkN : k = N := by omega
      subst hkN
      rw [← HN.out, List.take_length] at hS
      obtain ⟨A5, c5, rfl⟩ := hS.o.form
      generalize hon : (againO os now).length = on at *
      clear hon
      have HSF := Lib.hid hS
      have q0 := (H1.out.keep hS.be HL1.out).cell (j := 0) rfl
      have q1 := (H1.out.keep hS.be HL1.out).cell (j := 1) rfl
      have f0 := (H1.out.keep hS.be HL1.out).free 0
      have f1 := (H1.out.keep hS.be HL1.out).free 1
      have z1 := (H1.out.keep hS.be HL1.out).lt
      have t0 := (H0.out.keep hS.be HL0.out).free 0
      have HRB := Lib.hid (H1.out.keep hS.be HL1.out)
      have HQ1 := Lib.hid (hS.o.toP (Q := fun b => b < w.heap.size ∨ (B ≤ b ∧ b < wr.heap.size)) (fun _ h => .inl h) (fun _ h1 h2 => .inr ⟨h1, h2⟩))
      clear hS HS
      go_wp2_with fail
      obtain ⟨Z, hZ⟩ : ∃ Z, Z = (wr.setCell ⟨w.heap.size, 0, none⟩ (.slice A5 on c5)).setCells (w.heap.size + 1) 0 [.slice A5 on c5, .slice A2 M c2] := ⟨_, rfl⟩
      have hb0 := HL0.out
      have hb1 := HL1.out
      have hZB : Below w.heap.size w Z := by rw [hZ]; exact below_puts (b := w.heap.size + 1) (Nat.le_succ _) 0 _ ((HA.out.trans (HSF.out.be.mono HSF.out.lt.1)).setCell (p := ⟨w.heap.size, 0, none⟩) (Nat.le_refl _) _)
      have hZR : Box Z (w.heap.size + 1) [.slice A5 on c5, .slice A2 M c2] := by rw [hZ]; exact (HRB.out.far (p := ⟨w.heap.size, 0, none⟩) (by show w.heap.size + 1 ≠ w.heap.size; omega) _).put _ rfl
      have hZO : RowP outCs 10 OutS.parts Z (fun b => b < w.heap.size ∨ (B ≤ b ∧ b < wr.heap.size)) (.slice A5 on c5) (againO os now) := by
        rw [hZ]
        exact rowP_far (rowP_far (rowP_far HQ1.out (fun b hb => by rcases hb with hb | hb <;> omega) 0 _) (fun b hb => by rcases hb with hb | hb <;> omega) 0 _) (fun b hb => by rcases hb with hb | hb <;> omega) 1 _
      have hZA : OwnOutw Z B u8 (againA os now) := by rw [hZ]; exact ((HSF.out.a.far hb0 0 _).far hb1 0 _).far hb1 1 _
      have hZL : Z.ownsRow B 39 1 u9 (againL os now).length (u16s (againL os now)) := by rw [hZ]; exact own_far (own_far (own_far HSF.out.l hb0 0 _) hb1 0 _) hb1 1 _
      have hZs : Z.heap.size = wr.heap.size := by rw [hZ, size_puts]; simp
      rw [show ((wr.setCell ⟨w.heap.size, 0, none⟩ (.slice A5 on c5)).setCell ⟨w.heap.size + 1, 0, none⟩ (.slice A5 on c5)).setCell ⟨w.heap.size + 1, 1, none⟩ (.slice A2 M c2) = Z from hZ.symm]
      clear hZ
      refine bodyPost_ret (res_tr3b rfl _ _ (w.heap.size + 1) (.slice A5 on c5) (.slice A2 M c2) rfl hZR) rfl (HQ.out _ _ _ _ _ _ rfl hZB (hZO.weak fun b hb => ?_) (HU.out.on hZB) ?_ ?_)
      · rw [hZs]
        rcases hb with hb | hb <;> omega
      · exact hZA.reads
      · exact Sl.of_own hZL
end Go.Proofs.Ytkpjinkkjbljkaa
