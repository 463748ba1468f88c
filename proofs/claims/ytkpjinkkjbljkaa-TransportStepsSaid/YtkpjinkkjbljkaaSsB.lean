/- The law TransportSteps: the step, the walk. -/
import Derived.Test.YtkpjinkkjbljkaaTq7
import Derived.Test.YtkpjinkkjbljkaaSrC
import Derived.Test.YtkpjinkkjbljkaaSsA
import Derived.Test.YtkpjinkkjbljkaaTs7
import Derived.Test.YtkpjinkkjbljkaaSrB
import Derived.Test.YtkpjinkkjbljkaaSrE
import Derived.Test.YtkpjinkkjbljkaaLw50a
namespace Go.Proofs.Ytkpjinkkjbljkaa
open Go.RowKit

def WfA (o : OutS) : Prop := WfO o ∧ o.ackd < 2 ^ o.parts.length
def WfB (x : InS) : Prop := WfIn x ∧ x.blk < 2 ^ (x.last + 1).toNat
/-- What the state bears. -/
structure WfS (os : List OutS) (is : List InS) : Prop where
  ol : os.length ≤ 8
  o : ∀ o ∈ os, WfA o
  il : is.length ≤ 8
  i : ∀ x ∈ is, WfB x
section
variable {os : List OutS} {is : List InS}
theorem WfS.nil : WfS [] [] := ⟨by simp, by simp, by simp, by simp⟩
theorem WfS.wi (h : WfS os is) : WfIs is := ⟨h.il, fun x hx => (h.i x hx).1⟩
theorem WfS.wo (h : WfS os is) : ∀ o ∈ os, WfO o := fun o ho => (h.o o ho).1
theorem WfS.so (h : WfS os is) : Sized (os.map OutS.parts) := by
  refine ⟨by rw [List.length_map]; have := h.ol; omega, fun ps hps => ?_⟩
  obtain ⟨x, hx, rfl⟩ := List.mem_map.1 hps
  obtain ⟨⟨_, h2, h3, _⟩, _⟩ := h.o x hx
  exact ⟨by omega, h3⟩
theorem WfS.ack (h : WfS os is) : ∀ o ∈ os, o.ackd < 2 ^ o.parts.length ∧ o.parts.length ≤ 32 := fun o ho => ⟨(h.o o ho).2, (h.o o ho).1.2.1⟩
theorem WfS.ack' (h : WfS os is) : ∀ o ∈ os, o.ackd < 4294967296 ∧ o.parts.length ≤ 32 := fun o ho => ⟨(h.o o ho).1.1, (h.o o ho).1.2.1⟩
theorem WfS.blk (h : WfS os is) : ∀ x ∈ is, x.blk < 2 ^ (x.last + 1).toNat := fun x hx => (h.i x hx).2
theorem WfS.oLen (h : WfS os is) : os.length ≤ 65536 := by have := h.ol; omega
theorem WfS.iLen (h : WfS os is) : is.length ≤ 65536 := by have := h.il; omega
/-- Send. -/
theorem WfS.send (h : WfS os is) (a : AccS) (l : List UInt8) (now : Int) (hs : a.seq < 4294967296) : WfS (sendO os a l now) is := by
  unfold sendO
  split
  · rename_i hr
    obtain ⟨hr, h15⟩ := hr
    unfold refuseN at hr
    split at hr
    · omega
    · split at hr
      · omega
      · split at hr
        · omega
        · rw [if_neg (by omega)] at hr
          split at hr
          · omega
          · split at hr
            · omega
            · refine ⟨by rw [List.length_append]; simp; omega, fun o ho => ?_, h.il, h.i⟩
              rcases List.mem_append.1 ho with ho | ho
              · exact h.o o ho
              · simp only [List.mem_singleton] at ho
                subst ho
                have hcl : (chunks l (cntP l)).length = cntP l := chunks_len l _
                have hcc : cntP l ≤ 32 := by unfold cntP; omega
                refine ⟨⟨by show 0 < _; omega, by show (chunks l (cntP l)).length ≤ 32; omega, fun p hp => ?_, by show (0 : Int) ≤ 1; omega, by show (1 : Int) ≤ 65536; omega, hs⟩, Nat.two_pow_pos _⟩
                obtain ⟨i, _, rfl⟩ := List.mem_map.1 (show p ∈ (List.range (cntP l)).map (chunk l) from hp)
                have := chunk_le l i
                omega
  · exact h
/-- Receive. -/
theorem blk_mid {x : InS} {k : Nat} {bl : List UInt8} {ttl now : Int} {nd : Bool} (h : x.blk < 2 ^ (x.last + 1).toNat) (hk : k < (x.last + 1).toNat) : (ackIn (midIn x k bl ttl now nd).1 nd now).blk < 2 ^ ((ackIn (midIn x k bl ttl now nd).1 nd now).last + 1).toNat := by
  have hack : ∀ y : InS, y.blk < 2 ^ (y.last + 1).toNat → (ackIn y nd now).blk < 2 ^ ((ackIn y nd now).last + 1).toNat := fun y hy => by
    unfold ackIn
    split
    · exact hy
    · exact hy
  refine hack _ ?_
  unfold midIn
  split
  · exact h
  · have hp : (putIn x k bl ttl).blk < 2 ^ ((putIn x k bl ttl).last + 1).toNat := by
      by_cases h0 : x.blk / 2 ^ k % 2 = 0
      · rw [putIn_yes h0]
        exact or_lt h hk h0
      · rw [putIn_no h0]
        exact h
    unfold endIn
    split
    · exact hp
    · split
      · exact hp
      · exact hp
theorem WfS.recv (h : WfS os is) (src dst isrc iv seq : Nat) (ttl : Int) (p : Low) (bl : List UInt8) (now : Int) (hb : bl.length ≤ 65536) : WfS os (recvT is src dst isrc iv seq ttl p bl now).1 := by
  have hw := wf_recv (src := src) (dst := dst) (isrc := isrc) (iv := iv) (seq := seq) (ttl := ttl) (p := p) (bl := bl) (now := now) h.wi hb
  refine ⟨h.ol, h.o, hw.1, fun x hx => ⟨hw.2 x hx, ?_⟩⟩
  clear hw
  unfold recvT at hx
  split at hx
  · exact h.blk x hx
  · rename_i hbad
    have hok : chkL p bl.length = 0 := Classical.byContradiction fun h => hbad (.inl h)
    have hc : p.ctl = false := by cases h : p.ctl with
      | true => exact absurd (.inr h) hbad
      | false => rfl
    split at hx
    · exact h.blk x hx
    · rename_i hs
      have hs' : p.seg = true := by simpa using hs
      split at hx
      · exact h.blk x hx
      · split at hx
        · exact h.blk x hx
        · rename_i hp
          obtain ⟨c1, c2, c3, c4, c5, c6, _⟩ := chk_seg hok hc hs'
          have hpp := pick_place (is := is) (src := src) (dst := dst) (iv := iv) (ze := seq - backN seq p) (p := p) (by simpa using hp)
          replace hx : x ∈ (pickIn is src dst (seq - backN seq p) iv p).2 ++ [ackIn (midIn (pickIn is src dst (seq - backN seq p) iv p).1 p.idx.toNat bl ttl now (isNode dst)).1 (isNode dst) now] := keep8_mem hx
          generalize hpi : pickIn is src dst (seq - backN seq p) iv p = pk at *
          obtain ⟨x1, js1⟩ := pk
          rcases List.mem_append.1 hx with hx | hx
          · rcases hpp with ⟨_, h2⟩ | ⟨i, y, _, _, h2, _⟩
            · obtain ⟨rfl, rfl⟩ := Prod.mk.inj h2
              exact h.blk x hx
            · obtain ⟨rfl, rfl⟩ := Prod.mk.inj h2
              exact h.blk x (List.mem_of_mem_eraseIdx hx)
          · simp only [List.mem_singleton] at hx
            subst hx
            rcases hpp with ⟨_, h2⟩ | ⟨i, y, hy, _, h2, hl, _⟩
            · obtain ⟨rfl, rfl⟩ := Prod.mk.inj h2
              exact blk_mid (show (0 : Nat) < _ from Nat.two_pow_pos _) (show p.idx.toNat < (p.last + 1).toNat by omega)
            · obtain ⟨rfl, rfl⟩ := Prod.mk.inj h2
              exact blk_mid (h.blk _ (List.mem_of_getElem? hy)) (by omega)
/-- Acked. -/
theorem WfS.acked (h : WfS os is) (src : Nat) (p : Low) (n : Nat) : WfS (ackedT os src p n).1 is := by
  unfold ackedT
  split
  · exact h
  · cases hf : os.findIdx? (fitB src p) with
    | none => exact h
    | some i =>
      dsimp only
      obtain ⟨hi, _, _⟩ := List.findIdx?_eq_some_iff_getElem.1 hf
      have hx : os.getD i out0 = os[i] := by rw [List.getD_eq_getElem?_getD, List.getElem?_eq_getElem hi]; rfl
      rw [hx]
      have hw := h.o os[i] (List.getElem_mem hi)
      split
      · exact ⟨by rw [List.length_eraseIdx_of_lt hi]; have := h.ol; omega, fun o ho => h.o o (List.mem_of_mem_eraseIdx ho), h.il, h.i⟩
      · refine ⟨by rw [List.length_set]; exact h.ol, fun o ho => ?_, h.il, h.i⟩
        rcases List.mem_or_eq_of_mem_set ho with ho | rfl
        · exact h.o o ho
        · have hlt := acked_lt (p := p) hw.2
          have h32 : 2 ^ os[i].parts.length ≤ 2 ^ 32 := Nat.pow_le_pow_right (by omega) hw.1.2.1
          exact ⟨⟨by show ackedN p os[i] < _; omega, hw.1.2⟩, hlt⟩
/-- Again. -/
theorem ago_len (os : List OutS) (now : Int) : (againO os now).length ≤ os.length := by
  have h := flatMap_le (agO now) 1 os fun x _ => by unfold agO; split <;> (try split) <;> simp
  unfold againO
  omega
theorem WfS.again (h : WfS os is) (now : Int) : WfS (againO os now) is := by
  refine ⟨Nat.le_trans (ago_len os now) h.ol, fun o ho => ?_, h.il, h.i⟩
  obtain ⟨x, hx, ho⟩ := List.mem_flatMap.1 ho
  have hw := h.o x hx
  unfold agO at ho
  split at ho
  · simp only [List.mem_singleton] at ho
    subst ho
    exact hw
  · split at ho
    · rename_i ht
      simp only [List.mem_singleton] at ho
      subst ho
      have hm : mostT x ≤ 6 := by unfold mostT; split <;> omega
      obtain ⟨⟨h1, h2, h3, h4, h5, h6⟩, h7⟩ := hw
      exact ⟨⟨h1, h2, h3, by show 0 ≤ x.tries + 1; omega, by show x.tries + 1 ≤ 65536; omega, h6⟩, h7⟩
    · simp at ho
/-- Acks. -/
theorem WfS.acks (h : WfS os is) (now : Int) : WfS os (acksI is now) := by
  refine ⟨h.ol, h.o, by unfold acksI; rw [List.length_map]; exact h.il, fun x hx => ?_⟩
  obtain ⟨y, hy, rfl⟩ := List.mem_map.1 hx
  have hw := h.i y hy
  unfold ackI
  split
  · exact hw
  · exact hw
end

abbrev opV (o : OpS) (x y : Value) : Value := .agg (opCs o (x, y)).toArray
/-- What a step leaves. -/
def StepPost (os : List OutS) (is : List InS) (w : World) (e : Ending) (w' : World) : Prop :=
  Below w.heap.size w w' ∧ ∃ v u, e = .returned (.tuple #[.agg #[v, u], .bool true]) ∧ RowV2 outCs 10 OutS.parts w' w.heap.size w'.heap.size v os ∧ RowV2 inCs 11 InS.parts w' w.heap.size w'.heap.size u is
theorem same_now {os : List OutS} {is : List InS} (hwf : WfS os is) {v u v' u' : Value} {w w2 : World} (hb : Below w.heap.size w w2) (h1 : RowV outCs 10 OutS.parts w w.heap.size v os) (h2 : RowV inCs 11 InS.parts w w.heap.size u is) (h3 : RowV outCs 10 OutS.parts w w.heap.size v' os) (h4 : RowV inCs 11 InS.parts w w.heap.size u' is) :
    Calls Try.prog 49 #[.agg #[v, u], .agg #[v', u']] w2 fun e w' => e = .returned (.bool true) ∧ Below w2.heap.size w2 w' :=
  samest_any os is v u v' u' w2 (h1.on hb) (h2.on hb) (h3.on hb) (h4.on hb) hwf.oLen hwf.iLen (fun o ho => by have := (hwf.o o ho).1.2.1; omega) (fun x hx => by have := (hwf.i x hx).1.2.2.2.1; omega)
theorem send_len {os : List OutS} {a : AccS} {l : List UInt8} {now : Int} (h : l.length ≤ 500) : (sendL os a l now).length ≤ 65536 := by
  unfold sendL
  split
  · simp
  · split
    · simp
    · rw [segs_len]; unfold cntP; omega
theorem got_len (is : List InS) (src dst isrc iv seq : Nat) (ttl : Int) (p : Low) (bl : List UInt8) (now : Int) : (recvT is src dst isrc iv seq ttl p bl now).2.1.length ≤ 65536 := by
  unfold recvT
  split
  · simp
  · split
    · simp
    · split
      · simp
      · split
        · simp
        · dsimp only
          unfold gotIn
          split <;> simp
theorem again_len {os : List OutS} {is : List InS} (h : WfS os is) (now : Int) : (againA os now).length ≤ 65536 := by
  have h1 := flatMap_le (agA now) 32 os fun x hx => agA_len (h.o x hx).1.2.1
  have := h.ol
  unfold againA
  omega
theorem lost_len {os : List OutS} {is : List InS} (h : WfS os is) (now : Int) : (againL os now).length ≤ 65536 := by
  have h1 := flatMap_le (agL now) 1 os fun x _ => by unfold agL; split <;> (try split) <;> (try split) <;> simp
  have := h.ol
  unfold againL
  omega
theorem ackso_len {os : List OutS} {is : List InS} (h : WfS os is) (now : Int) : (acksO is now).length ≤ 65536 := by
  unfold acksO
  rw [List.length_map]
  have h1 := List.length_filter_le (dueB now) is
  have := h.il
  omega
set_option maxRecDepth 100000 in
set_option maxHeartbeats 8000000 in
theorem step0 (os : List OutS) (is : List InS) (o : OpS) (v u x y : Value) (w : World) (hk : o.kind = 0) (hwf : WfS os is) (hv : RowV outCs 10 OutS.parts w w.heap.size v os) (hu : RowV inCs 11 InS.parts w w.heap.size u is) (hx : BS w w.heap.size x o.ab) (hy : BS w w.heap.size y o.lb) (ho : OpW o) (hal : o.ab.length ≤ 500) (hn : 0 ≤ o.now) (hn2 : o.now ≤ 4611686018427387904) :
    Calls Try.prog 25 #[.agg #[v, u], opV o x y] w (StepPost (sendO os o.acc o.ab o.now) is w) := by
  obtain ⟨A1, c1, rfl⟩ := rowV_form hv
  obtain ⟨A2, c2, rfl⟩ := rowV_form hu
  obtain ⟨A3, c3, rfl, _⟩ := id hx
  obtain ⟨A4, c4, rfl, _⟩ := id hy
  have CS := Lib.hid (fun (W : World) (hW : Below w.heap.size w W) => send_any os is o.acc o.ab o.now (by omega) ho.1 hn2 hn _ _ _ W (hv.on hW) (hu.on hW) (hx.on hW) hwf.so hwf.wi.sized)
  have CR := Lib.hid (fun (W : World) (hW : Below w.heap.size w W) => rsend_any os is o.acc o.ab o.now (by omega) ho.1 hn2 hn _ _ _ W (hv.on hW) (hu.on hW) (hx.on hW) hwf.oLen)
  have HWF := Lib.hid (hwf.send o.acc o.ab o.now ho.1)
  have hlen : (sendL os o.acc o.ab o.now).length ≤ 65536 := send_len hal
  have Cx := Lib.hid (fun (a b : Value) (W W' : World) (hW : Below W.heap.size W W') (ha : LowsV W W.heap.size a (sendL os o.acc o.ab o.now)) (hb : LowsV W W.heap.size b (sendL os o.acc o.ab o.now)) => samelows_any a b (sendL os o.acc o.ab o.now) W' ((ha.below hW).more hW.size) ((hb.below hW).more hW.size) hlen)
  have HQ := Lib.hid (show ∀ (e : Ending) (w' : World) (v u : Value), e = .returned (.tuple #[.agg #[v, u], .bool true]) → Below w.heap.size w w' → RowV2 outCs 10 OutS.parts w' w.heap.size w'.heap.size v (sendO os o.acc o.ab o.now) → RowV2 inCs 11 InS.parts w' w.heap.size w'.heap.size u is → StepPost (sendO os o.acc o.ab o.now) is w e w' from fun e w' v u h1 h2 h3 h4 => ⟨h2, v, u, h1, h3, h4⟩)
  generalize StepPost (sendO os o.acc o.ab o.now) is w = Q at *
  unfold SendPost at CS
  unfold RSendPost at CR
  generalize sendO os o.acc o.ab o.now = os1 at *
  generalize sendL os o.acc o.ab o.now = Lx at *
  generalize refuseN os o.acc o.ab.length = er at *
  clear hwf hv hu hx hy ho hal hn hn2 hlen
  obtain ⟨kind, ⟨asrc, adst, aapp, attl, assrc, aiv, aseq⟩, ab, src, dst, isrc, iv, seq, ttl, now, ⟨ct, sg, ap, ze, ix, la, op, bk, fr⟩, lb⟩ := o
  obtain rfl : kind = 0 := hk
  dsimp only at CS CR
  generalize ab.length = n3 at *
  generalize lb.length = n4 at *
  generalize os.length = N at *
  generalize is.length = M at *
  go_enter Try.func25, Try.ntmps25
  go_upto_region 1 with fail
  obtain ⟨W, hW⟩ : ∃ W, W = ((w.alloc (.cells #[.slice A1 N c1, .slice A2 M c2] 47)).alloc (.cells #[.int .i64 0, .int .u16 (asrc : Int), .int .u16 (adst : Int), .bool aapp, .int .i64 attl, .int .u16 (assrc : Int), .int .u32 (aiv : Int), .int .u32 (aseq : Int), .slice A3 n3 c3, .int .u16 (src : Int), .int .u16 (dst : Int), .int .u16 (isrc : Int), .int .u32 (iv : Int), .int .u32 (seq : Int), .int .i64 ttl, .int .i64 now, .bool ct, .bool sg, .bool ap, .int .i64 ze, .int .i64 ix, .int .i64 la, .int .i64 op, .int .u32 (bk : Int), .bool fr, .slice A4 n4 c4] 59)).alloc (.cells #[.slice none 0 0, .slice none 0 0] 47) := ⟨_, rfl⟩
  have HB0 := Lib.hid (show Below w.heap.size w W by rw [hW]; exact al3 _ _ _ _)
  have K0 := Lib.hid (show Box W w.heap.size [.slice A1 N c1, .slice A2 M c2] by rw [hW]; exact ((Box.new _ _ _).alloc _).alloc _)
  have K1 := Lib.hid (show Box W (w.heap.size + 1) [.int .i64 0, .int .u16 (asrc : Int), .int .u16 (adst : Int), .bool aapp, .int .i64 attl, .int .u16 (assrc : Int), .int .u32 (aiv : Int), .int .u32 (aseq : Int), .slice A3 n3 c3, .int .u16 (src : Int), .int .u16 (dst : Int), .int .u16 (isrc : Int), .int .u32 (iv : Int), .int .u32 (seq : Int), .int .i64 ttl, .int .i64 now, .bool ct, .bool sg, .bool ap, .int .i64 ze, .int .i64 ix, .int .i64 la, .int .i64 op, .int .u32 (bk : Int), .bool fr, .slice A4 n4 c4] from ⟨59, by rw [hW, heap_al, if_neg (by simp), heap_al, if_pos (by simp)]⟩)
  have K2 := Lib.hid (show Box W (w.heap.size + 1 + 1) [.slice none 0 0, .slice none 0 0] from ⟨47, by rw [hW, heap_al, if_pos (by simp)]⟩)
  have KZ := Lib.hid (show W.heap.size = w.heap.size + 3 by rw [hW]; simp)
  rw [← hW]
  clear hW
  have p0 := (K0.out).cell (j := 0) rfl
  have p1 := (K0.out).cell (j := 1) rfl
  have pz := (K0.out).lt
  have q0 := (K1.out).cell (j := 0) rfl
  have q1 := (K1.out).cell (j := 1) rfl
  have q2 := (K1.out).cell (j := 2) rfl
  have q3 := (K1.out).cell (j := 3) rfl
  have q4 := (K1.out).cell (j := 4) rfl
  have q5 := (K1.out).cell (j := 5) rfl
  have q6 := (K1.out).cell (j := 6) rfl
  have q7 := (K1.out).cell (j := 7) rfl
  have q8 := (K1.out).cell (j := 8) rfl
  have q15 := (K1.out).cell (j := 15) rfl
  have qz := (K1.out).lt
  (try dsimp only at q0 q1 q2 q3 q4 q5 q6 q7 q8 q15)
  go_wp2_with fail
  refine (CS.out _ HB0.out).mono ?_
  rintro e w1 ⟨hb1, v1, u1, x1, rfl, hv1, hu1, hx1⟩
  obtain ⟨Av, cv, rfl⟩ := rowV_form hv1.weak
  obtain ⟨Au, cu, rfl⟩ := rowV_form hu1.weak
  obtain ⟨Ax1, cx1, rfl⟩ : ∃ A c, x1 = .slice A Lx.length c := by
    obtain ⟨_, _, ⟨A, c, h, _⟩, _⟩ := id hx1
    exact ⟨A, c, h⟩
  have HB1 := Lib.hid (bthen HB0.out hb1)
  have HBW := Lib.hid hb1
  have HV1 := Lib.hid hv1
  have HU1 := Lib.hid hu1
  have HXx1 := Lib.hid hx1.weak
  clear p0 p1 pz q0 q1 q2 q3 q4 q5 q6 q7 q8 q15 qz hv1 hu1 hx1 hb1
  have p0 := (K0.out.on HBW.out).cell (j := 0) rfl
  have p1 := (K0.out.on HBW.out).cell (j := 1) rfl
  have pz := (K0.out.on HBW.out).lt
  have q0 := (K1.out.on HBW.out).cell (j := 0) rfl
  have q1 := (K1.out.on HBW.out).cell (j := 1) rfl
  have q2 := (K1.out.on HBW.out).cell (j := 2) rfl
  have q3 := (K1.out.on HBW.out).cell (j := 3) rfl
  have q4 := (K1.out.on HBW.out).cell (j := 4) rfl
  have q5 := (K1.out.on HBW.out).cell (j := 5) rfl
  have q6 := (K1.out.on HBW.out).cell (j := 6) rfl
  have q7 := (K1.out.on HBW.out).cell (j := 7) rfl
  have q8 := (K1.out.on HBW.out).cell (j := 8) rfl
  have q15 := (K1.out.on HBW.out).cell (j := 15) rfl
  have qz := (K1.out.on HBW.out).lt
  (try dsimp only at q0 q1 q2 q3 q4 q5 q6 q7 q8 q15)
  go_wp2_with fail
  have HBa := Lib.hid (show Below w.heap.size w (w1.alloc (.cells #[.slice Av os1.length cv, .slice Au is.length cu] 47)) from HB1.out.alloc HB1.out.size _)
  refine (CR.out _ HBa.out).mono ?_
  rintro e w2 ⟨hb2, v2, u2, x2, rfl, hv2, hu2, hx2⟩
  obtain ⟨Av2, cv2, rfl⟩ := rowV_form hv2
  obtain ⟨Au2, cu2, rfl⟩ := rowV_form hu2
  obtain ⟨Ax2, cx2, rfl⟩ : ∃ A c, x2 = .slice A Lx.length c := by
    obtain ⟨_, _, ⟨A, c, h, _⟩, _⟩ := id hx2
    exact ⟨A, c, h⟩
  clear p0 p1 pz q0 q1 q2 q3 q4 q5 q6 q7 q8 q15 qz
  go_upto_region 5 with fail
  obtain ⟨W2, hW2⟩ : ∃ W2, W2 = w2.alloc (.cells #[.slice Av2 os1.length cv2, .slice Au2 is.length cu2] 47) := ⟨_, rfl⟩
  have hb22 : Below w2.heap.size w2 W2 := by rw [hW2]; exact al1 _ _
  have hb12 : Below w1.heap.size w1 W2 := bthen (al1 _ _) (bthen hb2 hb22)
  have HA2 := Lib.hid (show Box W2 w1.heap.size [.slice Av os1.length cv, .slice Au is.length cu] from ((Box.new w1 _ _).on hb2).on hb22)
  have HE2 := Lib.hid (show Box W2 w2.heap.size [.slice Av2 os1.length cv2, .slice Au2 is.length cu2] by rw [hW2]; exact Box.new _ _ _)
  have HR2 := Lib.hid ((K2.out.on HBW.out).on hb12)
  have HV2 := Lib.hid (HV1.out.on hb12)
  have HU2 := Lib.hid (HU1.out.on hb12)
  have CSA := Lib.hid (fun (W' : World) (hW' : Below W2.heap.size W2 W') => same_now HWF.out hW' HV2.out.weak HU2.out.weak (hv2.on hb22) (hu2.on hb22))
  have HBT := Lib.hid (bthen HB1.out hb12)
  have hne1 : w.heap.size + 1 + 1 ≠ w1.heap.size := by have := HBW.out.size; have := KZ.out; omega
  have hne2 : w.heap.size + 1 + 1 ≠ w2.heap.size := by have := HBW.out.size; have := KZ.out; have := hb2.size; simp at this; omega
  have Dx := Lib.hid (fun (W' : World) (hW' : Below W2.heap.size W2 W') => Cx.out _ _ W2 W' hW' (HXx1.out.on hb12) (hx2.on hb22))
  rw [← hW2]
  clear hW2 hb22 hb12 hb2 hv2 hu2 hx2
  have hne1' := Ne.symm hne1
  have hne2' := Ne.symm hne2
  have a0 := HA2.out.cell (j := 0) rfl
  have a1 := HA2.out.cell (j := 1) rfl
  have az := HA2.out.lt
  have e0 := HE2.out.cell (j := 0) rfl
  have e1 := HE2.out.cell (j := 1) rfl
  have ez := HE2.out.lt
  have r0 := HR2.out.cell (j := 0) rfl
  have r1 := HR2.out.cell (j := 1) rfl
  have rz := HR2.out.lt
  go_region_held3 (fun w' => w'.cell? ⟨w1.heap.size, 0, none⟩ = some (.slice Av os1.length cv) ∧ w'.cell? ⟨w1.heap.size, 1, none⟩ = some (.slice Au is.length cu) ∧ w'.cell? ⟨w2.heap.size, 0, none⟩ = some (.slice Av2 os1.length cv2) ∧ w'.cell? ⟨w2.heap.size, 1, none⟩ = some (.slice Au2 is.length cu2)) (go_keep)
    (first
      | (go_at_call 49; refine (CSA.out _ (below_drewN (Below.refl _ _) 1)).mono ?_; rintro e w5 ⟨rfl, hb5⟩; have hc5 := bfar W2.heap.size hb5 (by simp); have HB5 := Lib.hid (bthen (below_drewN (Below.refl W2.heap.size W2) 1) hb5); have hz5 : W2.heap.size ≤ w5.heap.size := HB5.out.size; have g0 := (HR2.out.on HB5.out).free 0; have g1 := (HR2.out.on HB5.out).free 1; have gz := (HR2.out.on HB5.out).lt; clear hb5)
      | (go_at_call 50; refine (Dx.out _ HB5.out).mono ?_; rintro e w6 ⟨rfl, hb6⟩; have hc6 := bfar W2.heap.size hb6 hz5; have HB6 := Lib.hid (bthen HB5.out hb6); have hz6 : W2.heap.size ≤ w6.heap.size := HB6.out.size; clear g0 g1 gz; have g0 := (HR2.out.on HB6.out).free 0; have g1 := (HR2.out.on HB6.out).free 1; have gz := (HR2.out.on HB6.out).lt; clear hb6))
  all_goals
    go_wp2_with fail
    obtain ⟨Z, hZ⟩ : ∃ Z, Z = w6.setCells (w.heap.size + 1 + 1) 0 [.slice Av os1.length cv, .slice Au is.length cu] := ⟨_, rfl⟩
    have hZB : Below w.heap.size w Z := by rw [hZ]; exact below_puts (b := w.heap.size + 1 + 1) (by omega) 0 _ (bthen HBT.out HB6.out)
    have hZR : Box Z (w.heap.size + 1 + 1) [.slice Av os1.length cv, .slice Au is.length cu] := by rw [hZ]; exact (HR2.out.on HB6.out).put _ rfl
    have hlo : w.heap.size + 1 + 1 < W.heap.size := by have := KZ.out; omega
    have hZs : Z.heap.size = w6.heap.size := by rw [hZ]; exact size_puts _ _ _ _
    have hZV : RowV2 outCs 10 OutS.parts Z w.heap.size Z.heap.size (.slice Av os1.length cv) os1 := by
      rw [hZs, hZ]
      exact (((HV2.out.on HB6.out).far hlo 0 _).far hlo 1 _).mono HB0.out.size (Nat.le_refl _)
    have hZU : RowV2 inCs 11 InS.parts Z w.heap.size Z.heap.size (.slice Au is.length cu) is := by
      rw [hZs, hZ]
      exact (((HU2.out.on HB6.out).far hlo 0 _).far hlo 1 _).mono HB0.out.size (Nat.le_refl _)
    rw [show (w6.setCell ⟨w.heap.size + 1 + 1, 0, none⟩ (.slice Av os1.length cv)).setCell ⟨w.heap.size + 1 + 1, 1, none⟩ (.slice Au is.length cu) = Z from hZ.symm]
    clear hZ
    exact bodyPost_ret (res_tr2 rfl _ _ (w.heap.size + 1 + 1) (.slice Av os1.length cv) (.slice Au is.length cu) rfl hZR) rfl (HQ.out _ _ _ _ rfl hZB hZV hZU)
set_option maxRecDepth 100000 in
set_option maxHeartbeats 8000000 in
theorem step2 (os : List OutS) (is : List InS) (o : OpS) (v u x y : Value) (w : World) (hk : o.kind = 2) (hwf : WfS os is) (hv : RowV outCs 10 OutS.parts w w.heap.size v os) (hu : RowV inCs 11 InS.parts w w.heap.size u is) (hx : BS w w.heap.size x o.ab) (hy : BS w w.heap.size y o.lb) (ho : OpW o) :
    Calls Try.prog 25 #[.agg #[v, u], opV o x y] w (StepPost (ackedT os o.src o.low o.lb.length).1 is w) := by
  obtain ⟨A1, c1, rfl⟩ := rowV_form hv
  obtain ⟨A2, c2, rfl⟩ := rowV_form hu
  obtain ⟨A3, c3, rfl, _⟩ := id hx
  obtain ⟨A4, c4, rfl, _⟩ := id hy
  have CS := Lib.hid (fun (W : World) (hW : Below w.heap.size w W) => acked_any os is o.src o.low o.lb ho.2.2 _ _ _ W (hv.on hW) (hu.on hW) (hy.on hW) hwf.so hwf.wi.sized hwf.ack')
  have CR := Lib.hid (fun (W : World) (hW : Below w.heap.size w W) => racked_any os is o.src o.low o.lb ho.2.2 _ _ _ W (hv.on hW) (hu.on hW) (hy.on hW) hwf.oLen hwf.ack)
  have HWF := Lib.hid (hwf.acked o.src o.low o.lb.length)
  have HQ := Lib.hid (show ∀ (e : Ending) (w' : World) (v u : Value), e = .returned (.tuple #[.agg #[v, u], .bool true]) → Below w.heap.size w w' → RowV2 outCs 10 OutS.parts w' w.heap.size w'.heap.size v (ackedT os o.src o.low o.lb.length).1 → RowV2 inCs 11 InS.parts w' w.heap.size w'.heap.size u is → StepPost (ackedT os o.src o.low o.lb.length).1 is w e w' from fun e w' v u h1 h2 h3 h4 => ⟨h2, v, u, h1, h3, h4⟩)
  generalize StepPost (ackedT os o.src o.low o.lb.length).1 is w = Q at *
  unfold AckedPost at CS
  unfold RAckedPost at CR
  generalize (ackedT os o.src o.low o.lb.length).1 = os1 at *
  generalize (ackedT os o.src o.low o.lb.length).2 = er at *
  clear hwf hv hu hx hy ho 
  obtain ⟨kind, ⟨asrc, adst, aapp, attl, assrc, aiv, aseq⟩, ab, src, dst, isrc, iv, seq, ttl, now, ⟨ct, sg, ap, ze, ix, la, op, bk, fr⟩, lb⟩ := o
  obtain rfl : kind = 2 := hk
  dsimp only at CS CR
  generalize ab.length = n3 at *
  generalize lb.length = n4 at *
  generalize os.length = N at *
  generalize is.length = M at *
  go_enter Try.func25, Try.ntmps25
  go_upto_region 1 with fail
  obtain ⟨W, hW⟩ : ∃ W, W = ((w.alloc (.cells #[.slice A1 N c1, .slice A2 M c2] 47)).alloc (.cells #[.int .i64 2, .int .u16 (asrc : Int), .int .u16 (adst : Int), .bool aapp, .int .i64 attl, .int .u16 (assrc : Int), .int .u32 (aiv : Int), .int .u32 (aseq : Int), .slice A3 n3 c3, .int .u16 (src : Int), .int .u16 (dst : Int), .int .u16 (isrc : Int), .int .u32 (iv : Int), .int .u32 (seq : Int), .int .i64 ttl, .int .i64 now, .bool ct, .bool sg, .bool ap, .int .i64 ze, .int .i64 ix, .int .i64 la, .int .i64 op, .int .u32 (bk : Int), .bool fr, .slice A4 n4 c4] 59)).alloc (.cells #[.slice none 0 0, .slice none 0 0] 47) := ⟨_, rfl⟩
  have HB0 := Lib.hid (show Below w.heap.size w W by rw [hW]; exact al3 _ _ _ _)
  have K0 := Lib.hid (show Box W w.heap.size [.slice A1 N c1, .slice A2 M c2] by rw [hW]; exact ((Box.new _ _ _).alloc _).alloc _)
  have K1 := Lib.hid (show Box W (w.heap.size + 1) [.int .i64 2, .int .u16 (asrc : Int), .int .u16 (adst : Int), .bool aapp, .int .i64 attl, .int .u16 (assrc : Int), .int .u32 (aiv : Int), .int .u32 (aseq : Int), .slice A3 n3 c3, .int .u16 (src : Int), .int .u16 (dst : Int), .int .u16 (isrc : Int), .int .u32 (iv : Int), .int .u32 (seq : Int), .int .i64 ttl, .int .i64 now, .bool ct, .bool sg, .bool ap, .int .i64 ze, .int .i64 ix, .int .i64 la, .int .i64 op, .int .u32 (bk : Int), .bool fr, .slice A4 n4 c4] from ⟨59, by rw [hW, heap_al, if_neg (by simp), heap_al, if_pos (by simp)]⟩)
  have K2 := Lib.hid (show Box W (w.heap.size + 1 + 1) [.slice none 0 0, .slice none 0 0] from ⟨47, by rw [hW, heap_al, if_pos (by simp)]⟩)
  have KZ := Lib.hid (show W.heap.size = w.heap.size + 3 by rw [hW]; simp)
  rw [← hW]
  clear hW
  have p0 := (K0.out).cell (j := 0) rfl
  have p1 := (K0.out).cell (j := 1) rfl
  have pz := (K0.out).lt
  have q0 := (K1.out).cell (j := 0) rfl
  have q9 := (K1.out).cell (j := 9) rfl
  have q16 := (K1.out).cell (j := 16) rfl
  have q17 := (K1.out).cell (j := 17) rfl
  have q18 := (K1.out).cell (j := 18) rfl
  have q19 := (K1.out).cell (j := 19) rfl
  have q20 := (K1.out).cell (j := 20) rfl
  have q21 := (K1.out).cell (j := 21) rfl
  have q22 := (K1.out).cell (j := 22) rfl
  have q23 := (K1.out).cell (j := 23) rfl
  have q24 := (K1.out).cell (j := 24) rfl
  have q25 := (K1.out).cell (j := 25) rfl
  have qz := (K1.out).lt
  (try dsimp only at q0 q9 q16 q17 q18 q19 q20 q21 q22 q23 q24 q25)
  go_wp2_with fail
  refine (CS.out _ HB0.out).mono ?_
  rintro e w1 ⟨hb1, v1, u1, rfl, hv1, hu1⟩
  obtain ⟨Av, cv, rfl⟩ := rowV_form hv1.weak
  obtain ⟨Au, cu, rfl⟩ := rowV_form hu1.weak
  have HB1 := Lib.hid (bthen HB0.out hb1)
  have HBW := Lib.hid hb1
  have HV1 := Lib.hid hv1
  have HU1 := Lib.hid hu1
  clear p0 p1 pz q0 q9 q16 q17 q18 q19 q20 q21 q22 q23 q24 q25 qz hv1 hu1 hb1
  have p0 := (K0.out.on HBW.out).cell (j := 0) rfl
  have p1 := (K0.out.on HBW.out).cell (j := 1) rfl
  have pz := (K0.out.on HBW.out).lt
  have q0 := (K1.out.on HBW.out).cell (j := 0) rfl
  have q9 := (K1.out.on HBW.out).cell (j := 9) rfl
  have q16 := (K1.out.on HBW.out).cell (j := 16) rfl
  have q17 := (K1.out.on HBW.out).cell (j := 17) rfl
  have q18 := (K1.out.on HBW.out).cell (j := 18) rfl
  have q19 := (K1.out.on HBW.out).cell (j := 19) rfl
  have q20 := (K1.out.on HBW.out).cell (j := 20) rfl
  have q21 := (K1.out.on HBW.out).cell (j := 21) rfl
  have q22 := (K1.out.on HBW.out).cell (j := 22) rfl
  have q23 := (K1.out.on HBW.out).cell (j := 23) rfl
  have q24 := (K1.out.on HBW.out).cell (j := 24) rfl
  have q25 := (K1.out.on HBW.out).cell (j := 25) rfl
  have qz := (K1.out.on HBW.out).lt
  (try dsimp only at q0 q9 q16 q17 q18 q19 q20 q21 q22 q23 q24 q25)
  go_wp2_with fail
  have HBa := Lib.hid (show Below w.heap.size w (w1.alloc (.cells #[.slice Av os1.length cv, .slice Au is.length cu] 47)) from HB1.out.alloc HB1.out.size _)
  refine (CR.out _ HBa.out).mono ?_
  rintro e w2 ⟨hb2, v2, u2, rfl, hv2, hu2⟩
  obtain ⟨Av2, cv2, rfl⟩ := rowV_form hv2
  obtain ⟨Au2, cu2, rfl⟩ := rowV_form hu2
  clear p0 p1 pz q0 q9 q16 q17 q18 q19 q20 q21 q22 q23 q24 q25 qz
  go_upto_region 13 with fail
  obtain ⟨W2, hW2⟩ : ∃ W2, W2 = w2.alloc (.cells #[.slice Av2 os1.length cv2, .slice Au2 is.length cu2] 47) := ⟨_, rfl⟩
  have hb22 : Below w2.heap.size w2 W2 := by rw [hW2]; exact al1 _ _
  have hb12 : Below w1.heap.size w1 W2 := bthen (al1 _ _) (bthen hb2 hb22)
  have HA2 := Lib.hid (show Box W2 w1.heap.size [.slice Av os1.length cv, .slice Au is.length cu] from ((Box.new w1 _ _).on hb2).on hb22)
  have HE2 := Lib.hid (show Box W2 w2.heap.size [.slice Av2 os1.length cv2, .slice Au2 is.length cu2] by rw [hW2]; exact Box.new _ _ _)
  have HR2 := Lib.hid ((K2.out.on HBW.out).on hb12)
  have HV2 := Lib.hid (HV1.out.on hb12)
  have HU2 := Lib.hid (HU1.out.on hb12)
  have CSA := Lib.hid (fun (W' : World) (hW' : Below W2.heap.size W2 W') => same_now HWF.out hW' HV2.out.weak HU2.out.weak (hv2.on hb22) (hu2.on hb22))
  have HBT := Lib.hid (bthen HB1.out hb12)
  have hne1 : w.heap.size + 1 + 1 ≠ w1.heap.size := by have := HBW.out.size; have := KZ.out; omega
  have hne2 : w.heap.size + 1 + 1 ≠ w2.heap.size := by have := HBW.out.size; have := KZ.out; have := hb2.size; simp at this; omega
  rw [← hW2]
  clear hW2 hb22 hb12 hb2 hv2 hu2
  have hne1' := Ne.symm hne1
  have hne2' := Ne.symm hne2
  have a0 := HA2.out.cell (j := 0) rfl
  have a1 := HA2.out.cell (j := 1) rfl
  have az := HA2.out.lt
  have e0 := HE2.out.cell (j := 0) rfl
  have e1 := HE2.out.cell (j := 1) rfl
  have ez := HE2.out.lt
  have r0 := HR2.out.cell (j := 0) rfl
  have r1 := HR2.out.cell (j := 1) rfl
  have rz := HR2.out.lt
  go_region_held3 (fun w' => w'.cell? ⟨w1.heap.size, 0, none⟩ = some (.slice Av os1.length cv) ∧ w'.cell? ⟨w1.heap.size, 1, none⟩ = some (.slice Au is.length cu) ∧ w'.cell? ⟨w2.heap.size, 0, none⟩ = some (.slice Av2 os1.length cv2) ∧ w'.cell? ⟨w2.heap.size, 1, none⟩ = some (.slice Au2 is.length cu2)) (go_keep)
    (first
      | (go_at_call 49; refine (CSA.out _ (below_drewN (Below.refl _ _) 1)).mono ?_; rintro e w5 ⟨rfl, hb5⟩; have hc5 := bfar W2.heap.size hb5 (by simp); have HB5 := Lib.hid (bthen (below_drewN (Below.refl W2.heap.size W2) 1) hb5); have hz5 : W2.heap.size ≤ w5.heap.size := HB5.out.size; have g0 := (HR2.out.on HB5.out).free 0; have g1 := (HR2.out.on HB5.out).free 1; have gz := (HR2.out.on HB5.out).lt; clear hb5))
  all_goals
    go_wp2_with fail
    obtain ⟨Z, hZ⟩ : ∃ Z, Z = w5.setCells (w.heap.size + 1 + 1) 0 [.slice Av os1.length cv, .slice Au is.length cu] := ⟨_, rfl⟩
    have hZB : Below w.heap.size w Z := by rw [hZ]; exact below_puts (b := w.heap.size + 1 + 1) (by omega) 0 _ (bthen HBT.out HB5.out)
    have hZR : Box Z (w.heap.size + 1 + 1) [.slice Av os1.length cv, .slice Au is.length cu] := by rw [hZ]; exact (HR2.out.on HB5.out).put _ rfl
    have hlo : w.heap.size + 1 + 1 < W.heap.size := by have := KZ.out; omega
    have hZs : Z.heap.size = w5.heap.size := by rw [hZ]; exact size_puts _ _ _ _
    have hZV : RowV2 outCs 10 OutS.parts Z w.heap.size Z.heap.size (.slice Av os1.length cv) os1 := by
      rw [hZs, hZ]
      exact (((HV2.out.on HB5.out).far hlo 0 _).far hlo 1 _).mono HB0.out.size (Nat.le_refl _)
    have hZU : RowV2 inCs 11 InS.parts Z w.heap.size Z.heap.size (.slice Au is.length cu) is := by
      rw [hZs, hZ]
      exact (((HU2.out.on HB5.out).far hlo 0 _).far hlo 1 _).mono HB0.out.size (Nat.le_refl _)
    rw [show (w5.setCell ⟨w.heap.size + 1 + 1, 0, none⟩ (.slice Av os1.length cv)).setCell ⟨w.heap.size + 1 + 1, 1, none⟩ (.slice Au is.length cu) = Z from hZ.symm]
    clear hZ
    exact bodyPost_ret (res_tr2 rfl _ _ (w.heap.size + 1 + 1) (.slice Av os1.length cv) (.slice Au is.length cu) rfl hZR) rfl (HQ.out _ _ _ _ rfl hZB hZV hZU)
set_option maxRecDepth 100000 in
set_option maxHeartbeats 8000000 in
theorem step3 (os : List OutS) (is : List InS) (o : OpS) (v u x y : Value) (w : World) (hk : o.kind = 3) (hwf : WfS os is) (hv : RowV outCs 10 OutS.parts w w.heap.size v os) (hu : RowV inCs 11 InS.parts w w.heap.size u is) (hx : BS w w.heap.size x o.ab) (hy : BS w w.heap.size y o.lb) (hn : 0 ≤ o.now) (hn2 : o.now ≤ 4611686018427387904) :
    Calls Try.prog 25 #[.agg #[v, u], opV o x y] w (StepPost (againO os o.now) is w) := by
  obtain ⟨A1, c1, rfl⟩ := rowV_form hv
  obtain ⟨A2, c2, rfl⟩ := rowV_form hu
  obtain ⟨A3, c3, rfl, _⟩ := id hx
  obtain ⟨A4, c4, rfl, _⟩ := id hy
  have CS := Lib.hid (fun (W : World) (hW : Below w.heap.size w W) => again_any os is o.now _ _ W (hv.on hW) (hu.on hW) hwf.so hwf.wi.sized hwf.wo hn hn2)
  have CR := Lib.hid (fun (W : World) (hW : Below w.heap.size w W) => ragain_any os is o.now _ _ W (hv.on hW) (hu.on hW) hwf.oLen hwf.wo hn hn2)
  have HWF := Lib.hid (hwf.again o.now)
  have hlen : (againA os o.now).length ≤ 65536 := again_len hwf o.now
  have hlen2 : (againL os o.now).length ≤ 65536 := lost_len hwf o.now
  have Cx := Lib.hid (fun (a b : Value) (W W' : World) (hW : Below W.heap.size W W') (ha : OutwsV W W.heap.size a (againA os o.now)) (hb : OutwsV W W.heap.size b (againA os o.now)) => sameouts_any a b (againA os o.now) W' ((ha.below hW).more hW.size) ((hb.below hW).more hW.size) hlen)
  have Cy := Lib.hid (fun (a b : Value) (W W' : World) (hW : Below W.heap.size W W') (ha : Sl W W.heap.size 1 a ((againL os o.now)).length (u16s (againL os o.now))) (hb : Sl W W.heap.size 1 b ((againL os o.now)).length (u16s (againL os o.now))) => sameaddr_any a b (againL os o.now) W' ((ha.below hW).more hW.size) ((hb.below hW).more hW.size) hlen2)
  have HQ := Lib.hid (show ∀ (e : Ending) (w' : World) (v u : Value), e = .returned (.tuple #[.agg #[v, u], .bool true]) → Below w.heap.size w w' → RowV2 outCs 10 OutS.parts w' w.heap.size w'.heap.size v (againO os o.now) → RowV2 inCs 11 InS.parts w' w.heap.size w'.heap.size u is → StepPost (againO os o.now) is w e w' from fun e w' v u h1 h2 h3 h4 => ⟨h2, v, u, h1, h3, h4⟩)
  generalize StepPost (againO os o.now) is w = Q at *
  unfold AgainPost at CS
  unfold RAgainPost at CR
  generalize againO os o.now = os1 at *
  generalize againA os o.now = Lx at *
  generalize againL os o.now = Ly at *
  clear hwf hv hu hx hy hn hn2 hlen hlen2
  obtain ⟨kind, ⟨asrc, adst, aapp, attl, assrc, aiv, aseq⟩, ab, src, dst, isrc, iv, seq, ttl, now, ⟨ct, sg, ap, ze, ix, la, op, bk, fr⟩, lb⟩ := o
  obtain rfl : kind = 3 := hk
  dsimp only at CS CR
  generalize ab.length = n3 at *
  generalize lb.length = n4 at *
  generalize os.length = N at *
  generalize is.length = M at *
  go_enter Try.func25, Try.ntmps25
  go_upto_region 1 with fail
  obtain ⟨W, hW⟩ : ∃ W, W = ((w.alloc (.cells #[.slice A1 N c1, .slice A2 M c2] 47)).alloc (.cells #[.int .i64 3, .int .u16 (asrc : Int), .int .u16 (adst : Int), .bool aapp, .int .i64 attl, .int .u16 (assrc : Int), .int .u32 (aiv : Int), .int .u32 (aseq : Int), .slice A3 n3 c3, .int .u16 (src : Int), .int .u16 (dst : Int), .int .u16 (isrc : Int), .int .u32 (iv : Int), .int .u32 (seq : Int), .int .i64 ttl, .int .i64 now, .bool ct, .bool sg, .bool ap, .int .i64 ze, .int .i64 ix, .int .i64 la, .int .i64 op, .int .u32 (bk : Int), .bool fr, .slice A4 n4 c4] 59)).alloc (.cells #[.slice none 0 0, .slice none 0 0] 47) := ⟨_, rfl⟩
  have HB0 := Lib.hid (show Below w.heap.size w W by rw [hW]; exact al3 _ _ _ _)
  have K0 := Lib.hid (show Box W w.heap.size [.slice A1 N c1, .slice A2 M c2] by rw [hW]; exact ((Box.new _ _ _).alloc _).alloc _)
  have K1 := Lib.hid (show Box W (w.heap.size + 1) [.int .i64 3, .int .u16 (asrc : Int), .int .u16 (adst : Int), .bool aapp, .int .i64 attl, .int .u16 (assrc : Int), .int .u32 (aiv : Int), .int .u32 (aseq : Int), .slice A3 n3 c3, .int .u16 (src : Int), .int .u16 (dst : Int), .int .u16 (isrc : Int), .int .u32 (iv : Int), .int .u32 (seq : Int), .int .i64 ttl, .int .i64 now, .bool ct, .bool sg, .bool ap, .int .i64 ze, .int .i64 ix, .int .i64 la, .int .i64 op, .int .u32 (bk : Int), .bool fr, .slice A4 n4 c4] from ⟨59, by rw [hW, heap_al, if_neg (by simp), heap_al, if_pos (by simp)]⟩)
  have K2 := Lib.hid (show Box W (w.heap.size + 1 + 1) [.slice none 0 0, .slice none 0 0] from ⟨47, by rw [hW, heap_al, if_pos (by simp)]⟩)
  have KZ := Lib.hid (show W.heap.size = w.heap.size + 3 by rw [hW]; simp)
  rw [← hW]
  clear hW
  have p0 := (K0.out).cell (j := 0) rfl
  have p1 := (K0.out).cell (j := 1) rfl
  have pz := (K0.out).lt
  have q0 := (K1.out).cell (j := 0) rfl
  have q15 := (K1.out).cell (j := 15) rfl
  have qz := (K1.out).lt
  (try dsimp only at q0 q15)
  go_wp2_with fail
  refine (CS.out _ HB0.out).mono ?_
  rintro e w1 ⟨hb1, v1, u1, x1, y1, rfl, hv1, hu1, hx1, hy1⟩
  obtain ⟨Av, cv, rfl⟩ := rowV_form hv1.weak
  obtain ⟨Au, cu, rfl⟩ := rowV_form hu1.weak
  obtain ⟨Ax1, cx1, rfl⟩ : ∃ A c, x1 = .slice A Lx.length c := by
    obtain ⟨_, _, ⟨A, c, h, _⟩, _⟩ := id hx1
    exact ⟨A, c, h⟩
  obtain ⟨Ay1, cy1, rfl⟩ : ∃ A c, y1 = .slice A Ly.length c := by
    obtain ⟨A, c, h, _⟩ := id hy1
    exact ⟨A, c, h⟩
  have HB1 := Lib.hid (bthen HB0.out hb1)
  have HBW := Lib.hid hb1
  have HV1 := Lib.hid hv1
  have HU1 := Lib.hid hu1
  have HXx1 := Lib.hid hx1.weak
  have HXy1 := Lib.hid hy1.weak
  clear p0 p1 pz q0 q15 qz hv1 hu1 hx1 hy1 hb1
  have p0 := (K0.out.on HBW.out).cell (j := 0) rfl
  have p1 := (K0.out.on HBW.out).cell (j := 1) rfl
  have pz := (K0.out.on HBW.out).lt
  have q0 := (K1.out.on HBW.out).cell (j := 0) rfl
  have q15 := (K1.out.on HBW.out).cell (j := 15) rfl
  have qz := (K1.out.on HBW.out).lt
  (try dsimp only at q0 q15)
  go_wp2_with fail
  have HBa := Lib.hid (show Below w.heap.size w (w1.alloc (.cells #[.slice Av os1.length cv, .slice Au is.length cu] 47)) from HB1.out.alloc HB1.out.size _)
  refine (CR.out _ HBa.out).mono ?_
  rintro e w2 ⟨hb2, v2, u2, x2, y2, rfl, hv2, hu2, hx2, hy2⟩
  obtain ⟨Av2, cv2, rfl⟩ := rowV_form hv2
  obtain ⟨Au2, cu2, rfl⟩ := rowV_form hu2
  obtain ⟨Ax2, cx2, rfl⟩ : ∃ A c, x2 = .slice A Lx.length c := by
    obtain ⟨_, _, ⟨A, c, h, _⟩, _⟩ := id hx2
    exact ⟨A, c, h⟩
  obtain ⟨Ay2, cy2, rfl⟩ : ∃ A c, y2 = .slice A Ly.length c := by
    obtain ⟨A, c, h, _⟩ := id hy2
    exact ⟨A, c, h⟩
  clear p0 p1 pz q0 q15 qz
  go_upto_region 17 with fail
  obtain ⟨W2, hW2⟩ : ∃ W2, W2 = w2.alloc (.cells #[.slice Av2 os1.length cv2, .slice Au2 is.length cu2] 47) := ⟨_, rfl⟩
  have hb22 : Below w2.heap.size w2 W2 := by rw [hW2]; exact al1 _ _
  have hb12 : Below w1.heap.size w1 W2 := bthen (al1 _ _) (bthen hb2 hb22)
  have HA2 := Lib.hid (show Box W2 w1.heap.size [.slice Av os1.length cv, .slice Au is.length cu] from ((Box.new w1 _ _).on hb2).on hb22)
  have HE2 := Lib.hid (show Box W2 w2.heap.size [.slice Av2 os1.length cv2, .slice Au2 is.length cu2] by rw [hW2]; exact Box.new _ _ _)
  have HR2 := Lib.hid ((K2.out.on HBW.out).on hb12)
  have HV2 := Lib.hid (HV1.out.on hb12)
  have HU2 := Lib.hid (HU1.out.on hb12)
  have CSA := Lib.hid (fun (W' : World) (hW' : Below W2.heap.size W2 W') => same_now HWF.out hW' HV2.out.weak HU2.out.weak (hv2.on hb22) (hu2.on hb22))
  have HBT := Lib.hid (bthen HB1.out hb12)
  have hne1 : w.heap.size + 1 + 1 ≠ w1.heap.size := by have := HBW.out.size; have := KZ.out; omega
  have hne2 : w.heap.size + 1 + 1 ≠ w2.heap.size := by have := HBW.out.size; have := KZ.out; have := hb2.size; simp at this; omega
  have Dx := Lib.hid (fun (W' : World) (hW' : Below W2.heap.size W2 W') => Cx.out _ _ W2 W' hW' (HXx1.out.on hb12) (hx2.on hb22))
  have Dy := Lib.hid (fun (W' : World) (hW' : Below W2.heap.size W2 W') => Cy.out _ _ W2 W' hW' (HXy1.out.on hb12) (hy2.on hb22))
  rw [← hW2]
  clear hW2 hb22 hb12 hb2 hv2 hu2 hx2 hy2
  have hne1' := Ne.symm hne1
  have hne2' := Ne.symm hne2
  have a0 := HA2.out.cell (j := 0) rfl
  have a1 := HA2.out.cell (j := 1) rfl
  have az := HA2.out.lt
  have e0 := HE2.out.cell (j := 0) rfl
  have e1 := HE2.out.cell (j := 1) rfl
  have ez := HE2.out.lt
  have r0 := HR2.out.cell (j := 0) rfl
  have r1 := HR2.out.cell (j := 1) rfl
  have rz := HR2.out.lt
  go_region_held3 (fun w' => w'.cell? ⟨w1.heap.size, 0, none⟩ = some (.slice Av os1.length cv) ∧ w'.cell? ⟨w1.heap.size, 1, none⟩ = some (.slice Au is.length cu) ∧ w'.cell? ⟨w2.heap.size, 0, none⟩ = some (.slice Av2 os1.length cv2) ∧ w'.cell? ⟨w2.heap.size, 1, none⟩ = some (.slice Au2 is.length cu2)) (go_keep)
    (first
      | (go_at_call 49; refine (CSA.out _ (below_drewN (Below.refl _ _) 1)).mono ?_; rintro e w5 ⟨rfl, hb5⟩; have hc5 := bfar W2.heap.size hb5 (by simp); have HB5 := Lib.hid (bthen (below_drewN (Below.refl W2.heap.size W2) 1) hb5); have hz5 : W2.heap.size ≤ w5.heap.size := HB5.out.size; have g0 := (HR2.out.on HB5.out).free 0; have g1 := (HR2.out.on HB5.out).free 1; have gz := (HR2.out.on HB5.out).lt; clear hb5)
      | (go_at_call 54; refine (Dx.out _ HB5.out).mono ?_; rintro e w6 ⟨rfl, hb6⟩; have hc6 := bfar W2.heap.size hb6 hz5; have HB6 := Lib.hid (bthen HB5.out hb6); have hz6 : W2.heap.size ≤ w6.heap.size := HB6.out.size; clear g0 g1 gz; have g0 := (HR2.out.on HB6.out).free 0; have g1 := (HR2.out.on HB6.out).free 1; have gz := (HR2.out.on HB6.out).lt; clear hb6)
      | (go_at_call 55; refine (Dy.out _ HB6.out).mono ?_; rintro e w7 ⟨rfl, hb7⟩; have hc7 := bfar W2.heap.size hb7 hz6; have HB7 := Lib.hid (bthen HB6.out hb7); have hz7 : W2.heap.size ≤ w7.heap.size := HB7.out.size; clear g0 g1 gz; have g0 := (HR2.out.on HB7.out).free 0; have g1 := (HR2.out.on HB7.out).free 1; have gz := (HR2.out.on HB7.out).lt; clear hb7))
  all_goals
    go_wp2_with fail
    obtain ⟨Z, hZ⟩ : ∃ Z, Z = w7.setCells (w.heap.size + 1 + 1) 0 [.slice Av os1.length cv, .slice Au is.length cu] := ⟨_, rfl⟩
    have hZB : Below w.heap.size w Z := by rw [hZ]; exact below_puts (b := w.heap.size + 1 + 1) (by omega) 0 _ (bthen HBT.out HB7.out)
    have hZR : Box Z (w.heap.size + 1 + 1) [.slice Av os1.length cv, .slice Au is.length cu] := by rw [hZ]; exact (HR2.out.on HB7.out).put _ rfl
    have hlo : w.heap.size + 1 + 1 < W.heap.size := by have := KZ.out; omega
    have hZs : Z.heap.size = w7.heap.size := by rw [hZ]; exact size_puts _ _ _ _
    have hZV : RowV2 outCs 10 OutS.parts Z w.heap.size Z.heap.size (.slice Av os1.length cv) os1 := by
      rw [hZs, hZ]
      exact (((HV2.out.on HB7.out).far hlo 0 _).far hlo 1 _).mono HB0.out.size (Nat.le_refl _)
    have hZU : RowV2 inCs 11 InS.parts Z w.heap.size Z.heap.size (.slice Au is.length cu) is := by
      rw [hZs, hZ]
      exact (((HU2.out.on HB7.out).far hlo 0 _).far hlo 1 _).mono HB0.out.size (Nat.le_refl _)
    rw [show (w7.setCell ⟨w.heap.size + 1 + 1, 0, none⟩ (.slice Av os1.length cv)).setCell ⟨w.heap.size + 1 + 1, 1, none⟩ (.slice Au is.length cu) = Z from hZ.symm]
    clear hZ
    exact bodyPost_ret (res_tr2 rfl _ _ (w.heap.size + 1 + 1) (.slice Av os1.length cv) (.slice Au is.length cu) rfl hZR) rfl (HQ.out _ _ _ _ rfl hZB hZV hZU)
set_option maxRecDepth 100000 in
set_option maxHeartbeats 8000000 in
theorem step4 (os : List OutS) (is : List InS) (o : OpS) (v u x y : Value) (w : World) (hk0 : o.kind ≠ 0) (hk1 : o.kind ≠ 1) (hk2 : o.kind ≠ 2) (hk3 : o.kind ≠ 3) (hwf : WfS os is) (hv : RowV outCs 10 OutS.parts w w.heap.size v os) (hu : RowV inCs 11 InS.parts w w.heap.size u is) (hx : BS w w.heap.size x o.ab) (hy : BS w w.heap.size y o.lb) :
    Calls Try.prog 25 #[.agg #[v, u], opV o x y] w (StepPost os (acksI is o.now) w) := by
  obtain ⟨A1, c1, rfl⟩ := rowV_form hv
  obtain ⟨A2, c2, rfl⟩ := rowV_form hu
  obtain ⟨A3, c3, rfl, _⟩ := id hx
  obtain ⟨A4, c4, rfl, _⟩ := id hy
  have CS := Lib.hid (fun (W : World) (hW : Below w.heap.size w W) => acks_any os is o.now _ _ W (hv.on hW) (hu.on hW) hwf.so hwf.wi.sized)
  have CR := Lib.hid (fun (W : World) (hW : Below w.heap.size w W) => racks_any os is o.now _ _ W (hv.on hW) (hu.on hW) hwf.iLen)
  have HWF := Lib.hid (hwf.acks o.now)
  have hlen : (acksO is o.now).length ≤ 65536 := ackso_len hwf o.now
  have Cx := Lib.hid (fun (a b : Value) (W W' : World) (hW : Below W.heap.size W W') (ha : OutwsV W W.heap.size a (acksO is o.now)) (hb : OutwsV W W.heap.size b (acksO is o.now)) => sameouts_any a b (acksO is o.now) W' ((ha.below hW).more hW.size) ((hb.below hW).more hW.size) hlen)
  have HQ := Lib.hid (show ∀ (e : Ending) (w' : World) (v u : Value), e = .returned (.tuple #[.agg #[v, u], .bool true]) → Below w.heap.size w w' → RowV2 outCs 10 OutS.parts w' w.heap.size w'.heap.size v os → RowV2 inCs 11 InS.parts w' w.heap.size w'.heap.size u (acksI is o.now) → StepPost os (acksI is o.now) w e w' from fun e w' v u h1 h2 h3 h4 => ⟨h2, v, u, h1, h3, h4⟩)
  generalize StepPost os (acksI is o.now) w = Q at *
  unfold AcksPost at CS
  unfold RAcksPost at CR
  generalize acksI is o.now = is1 at *
  generalize acksO is o.now = Lx at *
  clear hwf hv hu hx hy  hlen
  obtain ⟨kind, ⟨asrc, adst, aapp, attl, assrc, aiv, aseq⟩, ab, src, dst, isrc, iv, seq, ttl, now, ⟨ct, sg, ap, ze, ix, la, op, bk, fr⟩, lb⟩ := o
  have hk0 : ¬ kind = 0 := hk0
  have hk1 : ¬ kind = 1 := hk1
  have hk2 : ¬ kind = 2 := hk2
  have hk3 : ¬ kind = 3 := hk3
  dsimp only at CS CR
  generalize ab.length = n3 at *
  generalize lb.length = n4 at *
  generalize os.length = N at *
  generalize is.length = M at *
  go_enter Try.func25, Try.ntmps25
  go_upto_region 1 with fail
  obtain ⟨W, hW⟩ : ∃ W, W = ((w.alloc (.cells #[.slice A1 N c1, .slice A2 M c2] 47)).alloc (.cells #[.int .i64 kind, .int .u16 (asrc : Int), .int .u16 (adst : Int), .bool aapp, .int .i64 attl, .int .u16 (assrc : Int), .int .u32 (aiv : Int), .int .u32 (aseq : Int), .slice A3 n3 c3, .int .u16 (src : Int), .int .u16 (dst : Int), .int .u16 (isrc : Int), .int .u32 (iv : Int), .int .u32 (seq : Int), .int .i64 ttl, .int .i64 now, .bool ct, .bool sg, .bool ap, .int .i64 ze, .int .i64 ix, .int .i64 la, .int .i64 op, .int .u32 (bk : Int), .bool fr, .slice A4 n4 c4] 59)).alloc (.cells #[.slice none 0 0, .slice none 0 0] 47) := ⟨_, rfl⟩
  have HB0 := Lib.hid (show Below w.heap.size w W by rw [hW]; exact al3 _ _ _ _)
  have K0 := Lib.hid (show Box W w.heap.size [.slice A1 N c1, .slice A2 M c2] by rw [hW]; exact ((Box.new _ _ _).alloc _).alloc _)
  have K1 := Lib.hid (show Box W (w.heap.size + 1) [.int .i64 kind, .int .u16 (asrc : Int), .int .u16 (adst : Int), .bool aapp, .int .i64 attl, .int .u16 (assrc : Int), .int .u32 (aiv : Int), .int .u32 (aseq : Int), .slice A3 n3 c3, .int .u16 (src : Int), .int .u16 (dst : Int), .int .u16 (isrc : Int), .int .u32 (iv : Int), .int .u32 (seq : Int), .int .i64 ttl, .int .i64 now, .bool ct, .bool sg, .bool ap, .int .i64 ze, .int .i64 ix, .int .i64 la, .int .i64 op, .int .u32 (bk : Int), .bool fr, .slice A4 n4 c4] from ⟨59, by rw [hW, heap_al, if_neg (by simp), heap_al, if_pos (by simp)]⟩)
  have K2 := Lib.hid (show Box W (w.heap.size + 1 + 1) [.slice none 0 0, .slice none 0 0] from ⟨47, by rw [hW, heap_al, if_pos (by simp)]⟩)
  have KZ := Lib.hid (show W.heap.size = w.heap.size + 3 by rw [hW]; simp)
  rw [← hW]
  clear hW
  have p0 := (K0.out).cell (j := 0) rfl
  have p1 := (K0.out).cell (j := 1) rfl
  have pz := (K0.out).lt
  have q0 := (K1.out).cell (j := 0) rfl
  have q15 := (K1.out).cell (j := 15) rfl
  have qz := (K1.out).lt
  (try dsimp only at q0 q15)
  go_wp2_with fail
  refine (CS.out _ HB0.out).mono ?_
  rintro e w1 ⟨hb1, v1, u1, x1, rfl, hv1, hu1, hx1⟩
  obtain ⟨Av, cv, rfl⟩ := rowV_form hv1.weak
  obtain ⟨Au, cu, rfl⟩ := rowV_form hu1.weak
  obtain ⟨Ax1, cx1, rfl⟩ : ∃ A c, x1 = .slice A Lx.length c := by
    obtain ⟨_, _, ⟨A, c, h, _⟩, _⟩ := id hx1
    exact ⟨A, c, h⟩
  have HB1 := Lib.hid (bthen HB0.out hb1)
  have HBW := Lib.hid hb1
  have HV1 := Lib.hid hv1
  have HU1 := Lib.hid hu1
  have HXx1 := Lib.hid hx1.weak
  clear p0 p1 pz q0 q15 qz hv1 hu1 hx1 hb1
  have p0 := (K0.out.on HBW.out).cell (j := 0) rfl
  have p1 := (K0.out.on HBW.out).cell (j := 1) rfl
  have pz := (K0.out.on HBW.out).lt
  have q0 := (K1.out.on HBW.out).cell (j := 0) rfl
  have q15 := (K1.out.on HBW.out).cell (j := 15) rfl
  have qz := (K1.out.on HBW.out).lt
  (try dsimp only at q0 q15)
  go_wp2_with fail
  have HBa := Lib.hid (show Below w.heap.size w (w1.alloc (.cells #[.slice Av os.length cv, .slice Au is1.length cu] 47)) from HB1.out.alloc HB1.out.size _)
  refine (CR.out _ HBa.out).mono ?_
  rintro e w2 ⟨hb2, v2, u2, x2, rfl, hv2, hu2, hx2⟩
  obtain ⟨Av2, cv2, rfl⟩ := rowV_form hv2
  obtain ⟨Au2, cu2, rfl⟩ := rowV_form hu2
  obtain ⟨Ax2, cx2, rfl⟩ : ∃ A c, x2 = .slice A Lx.length c := by
    obtain ⟨_, _, ⟨A, c, h, _⟩, _⟩ := id hx2
    exact ⟨A, c, h⟩
  clear p0 p1 pz q0 q15 qz
  go_upto_region 20 with fail
  obtain ⟨W2, hW2⟩ : ∃ W2, W2 = w2.alloc (.cells #[.slice Av2 os.length cv2, .slice Au2 is1.length cu2] 47) := ⟨_, rfl⟩
  have hb22 : Below w2.heap.size w2 W2 := by rw [hW2]; exact al1 _ _
  have hb12 : Below w1.heap.size w1 W2 := bthen (al1 _ _) (bthen hb2 hb22)
  have HA2 := Lib.hid (show Box W2 w1.heap.size [.slice Av os.length cv, .slice Au is1.length cu] from ((Box.new w1 _ _).on hb2).on hb22)
  have HE2 := Lib.hid (show Box W2 w2.heap.size [.slice Av2 os.length cv2, .slice Au2 is1.length cu2] by rw [hW2]; exact Box.new _ _ _)
  have HR2 := Lib.hid ((K2.out.on HBW.out).on hb12)
  have HV2 := Lib.hid (HV1.out.on hb12)
  have HU2 := Lib.hid (HU1.out.on hb12)
  have CSA := Lib.hid (fun (W' : World) (hW' : Below W2.heap.size W2 W') => same_now HWF.out hW' HV2.out.weak HU2.out.weak (hv2.on hb22) (hu2.on hb22))
  have HBT := Lib.hid (bthen HB1.out hb12)
  have hne1 : w.heap.size + 1 + 1 ≠ w1.heap.size := by have := HBW.out.size; have := KZ.out; omega
  have hne2 : w.heap.size + 1 + 1 ≠ w2.heap.size := by have := HBW.out.size; have := KZ.out; have := hb2.size; simp at this; omega
  have Dx := Lib.hid (fun (W' : World) (hW' : Below W2.heap.size W2 W') => Cx.out _ _ W2 W' hW' (HXx1.out.on hb12) (hx2.on hb22))
  rw [← hW2]
  clear hW2 hb22 hb12 hb2 hv2 hu2 hx2
  have hne1' := Ne.symm hne1
  have hne2' := Ne.symm hne2
  have a0 := HA2.out.cell (j := 0) rfl
  have a1 := HA2.out.cell (j := 1) rfl
  have az := HA2.out.lt
  have e0 := HE2.out.cell (j := 0) rfl
  have e1 := HE2.out.cell (j := 1) rfl
  have ez := HE2.out.lt
  have r0 := HR2.out.cell (j := 0) rfl
  have r1 := HR2.out.cell (j := 1) rfl
  have rz := HR2.out.lt
  go_region_held3 (fun w' => w'.cell? ⟨w1.heap.size, 0, none⟩ = some (.slice Av os.length cv) ∧ w'.cell? ⟨w1.heap.size, 1, none⟩ = some (.slice Au is1.length cu) ∧ w'.cell? ⟨w2.heap.size, 0, none⟩ = some (.slice Av2 os.length cv2) ∧ w'.cell? ⟨w2.heap.size, 1, none⟩ = some (.slice Au2 is1.length cu2)) (go_keep)
    (first
      | (go_at_call 49; refine (CSA.out _ (below_drewN (Below.refl _ _) 1)).mono ?_; rintro e w5 ⟨rfl, hb5⟩; have hc5 := bfar W2.heap.size hb5 (by simp); have HB5 := Lib.hid (bthen (below_drewN (Below.refl W2.heap.size W2) 1) hb5); have hz5 : W2.heap.size ≤ w5.heap.size := HB5.out.size; have g0 := (HR2.out.on HB5.out).free 0; have g1 := (HR2.out.on HB5.out).free 1; have gz := (HR2.out.on HB5.out).lt; clear hb5)
      | (go_at_call 54; refine (Dx.out _ HB5.out).mono ?_; rintro e w6 ⟨rfl, hb6⟩; have hc6 := bfar W2.heap.size hb6 hz5; have HB6 := Lib.hid (bthen HB5.out hb6); have hz6 : W2.heap.size ≤ w6.heap.size := HB6.out.size; clear g0 g1 gz; have g0 := (HR2.out.on HB6.out).free 0; have g1 := (HR2.out.on HB6.out).free 1; have gz := (HR2.out.on HB6.out).lt; clear hb6))
  all_goals
    go_wp2_with fail
    obtain ⟨Z, hZ⟩ : ∃ Z, Z = w6.setCells (w.heap.size + 1 + 1) 0 [.slice Av os.length cv, .slice Au is1.length cu] := ⟨_, rfl⟩
    have hZB : Below w.heap.size w Z := by rw [hZ]; exact below_puts (b := w.heap.size + 1 + 1) (by omega) 0 _ (bthen HBT.out HB6.out)
    have hZR : Box Z (w.heap.size + 1 + 1) [.slice Av os.length cv, .slice Au is1.length cu] := by rw [hZ]; exact (HR2.out.on HB6.out).put _ rfl
    have hlo : w.heap.size + 1 + 1 < W.heap.size := by have := KZ.out; omega
    have hZs : Z.heap.size = w6.heap.size := by rw [hZ]; exact size_puts _ _ _ _
    have hZV : RowV2 outCs 10 OutS.parts Z w.heap.size Z.heap.size (.slice Av os.length cv) os := by
      rw [hZs, hZ]
      exact (((HV2.out.on HB6.out).far hlo 0 _).far hlo 1 _).mono HB0.out.size (Nat.le_refl _)
    have hZU : RowV2 inCs 11 InS.parts Z w.heap.size Z.heap.size (.slice Au is1.length cu) is1 := by
      rw [hZs, hZ]
      exact (((HU2.out.on HB6.out).far hlo 0 _).far hlo 1 _).mono HB0.out.size (Nat.le_refl _)
    rw [show (w6.setCell ⟨w.heap.size + 1 + 1, 0, none⟩ (.slice Av os.length cv)).setCell ⟨w.heap.size + 1 + 1, 1, none⟩ (.slice Au is1.length cu) = Z from hZ.symm]
    clear hZ
    exact bodyPost_ret (res_tr2 rfl _ _ (w.heap.size + 1 + 1) (.slice Av os.length cv) (.slice Au is1.length cu) rfl hZR) rfl (HQ.out _ _ _ _ rfl hZB hZV hZU)

set_option maxRecDepth 100000 in
set_option maxHeartbeats 8000000 in
theorem step1 (os : List OutS) (is : List InS) (o : OpS) (v u x y : Value) (w : World) (hk : o.kind = 1) (hwf : WfS os is) (hv : RowV outCs 10 OutS.parts w w.heap.size v os) (hu : RowV inCs 11 InS.parts w w.heap.size u is) (hx : BS w w.heap.size x o.ab) (hy : BS w w.heap.size y o.lb) (ho : OpW o) (hll : o.lb.length ≤ 100) (hn : 0 ≤ o.now) (hn2 : o.now ≤ 4611686018427387904) :
    Calls Try.prog 25 #[.agg #[v, u], opV o x y] w (StepPost os (recvT is o.src o.dst o.isrc o.iv o.seq o.ttl o.low o.lb o.now).1 w) := by
  obtain ⟨A1, c1, rfl⟩ := rowV_form hv
  obtain ⟨A2, c2, rfl⟩ := rowV_form hu
  obtain ⟨A3, c3, rfl, _⟩ := id hx
  obtain ⟨A4, c4, rfl, _⟩ := id hy
  have CS := Lib.hid (fun (W : World) (hW : Below w.heap.size w W) => recv_any os is o.src o.dst o.isrc o.iv o.seq o.ttl o.low o.lb o.now (by omega) ho.2.1 _ _ _ W (hv.on hW) (hu.on hW) (hy.on hW) hwf.so hwf.wi hn hn2)
  have CR := Lib.hid (fun (W : World) (hW : Below w.heap.size w W) => rrecv_any os is o.src o.dst o.isrc o.iv o.seq o.ttl o.low o.lb o.now (by omega) ho.2.1 _ _ _ W (hv.on hW) (hu.on hW) (hy.on hW) hwf.wi hwf.blk hn hn2)
  have HWF := Lib.hid (hwf.recv o.src o.dst o.isrc o.iv o.seq o.ttl o.low o.lb o.now (by omega))
  have hlen : (recvT is o.src o.dst o.isrc o.iv o.seq o.ttl o.low o.lb o.now).2.1.length ≤ 65536 := got_len _ _ _ _ _ _ _ _ _ _
  have Cx := Lib.hid (fun (a b : Value) (W W' : World) (hW : Below W.heap.size W W') (ha : AccsV W W.heap.size a (recvT is o.src o.dst o.isrc o.iv o.seq o.ttl o.low o.lb o.now).2.1) (hb : AccsV W W.heap.size b (recvT is o.src o.dst o.isrc o.iv o.seq o.ttl o.low o.lb o.now).2.1) => sameacc_any a b (recvT is o.src o.dst o.isrc o.iv o.seq o.ttl o.low o.lb o.now).2.1 W' ((ha.below hW).more hW.size) ((hb.below hW).more hW.size) hlen)
  have HQ := Lib.hid (show ∀ (e : Ending) (w' : World) (v u : Value), e = .returned (.tuple #[.agg #[v, u], .bool true]) → Below w.heap.size w w' → RowV2 outCs 10 OutS.parts w' w.heap.size w'.heap.size v os → RowV2 inCs 11 InS.parts w' w.heap.size w'.heap.size u (recvT is o.src o.dst o.isrc o.iv o.seq o.ttl o.low o.lb o.now).1 → StepPost os (recvT is o.src o.dst o.isrc o.iv o.seq o.ttl o.low o.lb o.now).1 w e w' from fun e w' v u h1 h2 h3 h4 => ⟨h2, v, u, h1, h3, h4⟩)
  generalize StepPost os (recvT is o.src o.dst o.isrc o.iv o.seq o.ttl o.low o.lb o.now).1 w = Q at *
  unfold RecvPost at CS
  unfold RRecvPost at CR
  generalize (recvT is o.src o.dst o.isrc o.iv o.seq o.ttl o.low o.lb o.now).1 = is1 at *
  generalize (recvT is o.src o.dst o.isrc o.iv o.seq o.ttl o.low o.lb o.now).2.1 = Lx at *
  generalize (recvT is o.src o.dst o.isrc o.iv o.seq o.ttl o.low o.lb o.now).2.2 = er at *
  clear hwf hv hu hx hy ho hll hn hn2 hlen
  obtain ⟨kind, ⟨asrc, adst, aapp, attl, assrc, aiv, aseq⟩, ab, src, dst, isrc, iv, seq, ttl, now, ⟨ct, sg, ap, ze, ix, la, op, bk, fr⟩, lb⟩ := o
  obtain rfl : kind = 1 := hk
  dsimp only at CS CR
  generalize ab.length = n3 at *
  generalize lb.length = n4 at *
  generalize os.length = N at *
  generalize is.length = M at *
  go_enter Try.func25, Try.ntmps25
  go_upto_region 1 with fail
  obtain ⟨W, hW⟩ : ∃ W, W = ((w.alloc (.cells #[.slice A1 N c1, .slice A2 M c2] 47)).alloc (.cells #[.int .i64 1, .int .u16 (asrc : Int), .int .u16 (adst : Int), .bool aapp, .int .i64 attl, .int .u16 (assrc : Int), .int .u32 (aiv : Int), .int .u32 (aseq : Int), .slice A3 n3 c3, .int .u16 (src : Int), .int .u16 (dst : Int), .int .u16 (isrc : Int), .int .u32 (iv : Int), .int .u32 (seq : Int), .int .i64 ttl, .int .i64 now, .bool ct, .bool sg, .bool ap, .int .i64 ze, .int .i64 ix, .int .i64 la, .int .i64 op, .int .u32 (bk : Int), .bool fr, .slice A4 n4 c4] 59)).alloc (.cells #[.slice none 0 0, .slice none 0 0] 47) := ⟨_, rfl⟩
  have HB0 := Lib.hid (show Below w.heap.size w W by rw [hW]; exact al3 _ _ _ _)
  have K0 := Lib.hid (show Box W w.heap.size [.slice A1 N c1, .slice A2 M c2] by rw [hW]; exact ((Box.new _ _ _).alloc _).alloc _)
  have K1 := Lib.hid (show Box W (w.heap.size + 1) [.int .i64 1, .int .u16 (asrc : Int), .int .u16 (adst : Int), .bool aapp, .int .i64 attl, .int .u16 (assrc : Int), .int .u32 (aiv : Int), .int .u32 (aseq : Int), .slice A3 n3 c3, .int .u16 (src : Int), .int .u16 (dst : Int), .int .u16 (isrc : Int), .int .u32 (iv : Int), .int .u32 (seq : Int), .int .i64 ttl, .int .i64 now, .bool ct, .bool sg, .bool ap, .int .i64 ze, .int .i64 ix, .int .i64 la, .int .i64 op, .int .u32 (bk : Int), .bool fr, .slice A4 n4 c4] from ⟨59, by rw [hW, heap_al, if_neg (by simp), heap_al, if_pos (by simp)]⟩)
  have K2 := Lib.hid (show Box W (w.heap.size + 1 + 1) [.slice none 0 0, .slice none 0 0] from ⟨47, by rw [hW, heap_al, if_pos (by simp)]⟩)
  have KZ := Lib.hid (show W.heap.size = w.heap.size + 3 by rw [hW]; simp)
  rw [← hW]
  clear hW
  have p0 := (K0.out).cell (j := 0) rfl
  have p1 := (K0.out).cell (j := 1) rfl
  have pz := (K0.out).lt
  have q0 := (K1.out).cell (j := 0) rfl
  have q9 := (K1.out).cell (j := 9) rfl
  have q10 := (K1.out).cell (j := 10) rfl
  have q11 := (K1.out).cell (j := 11) rfl
  have q12 := (K1.out).cell (j := 12) rfl
  have q13 := (K1.out).cell (j := 13) rfl
  have q14 := (K1.out).cell (j := 14) rfl
  have q15 := (K1.out).cell (j := 15) rfl
  have q16 := (K1.out).cell (j := 16) rfl
  have q17 := (K1.out).cell (j := 17) rfl
  have q18 := (K1.out).cell (j := 18) rfl
  have q19 := (K1.out).cell (j := 19) rfl
  have q20 := (K1.out).cell (j := 20) rfl
  have q21 := (K1.out).cell (j := 21) rfl
  have q22 := (K1.out).cell (j := 22) rfl
  have q23 := (K1.out).cell (j := 23) rfl
  have q24 := (K1.out).cell (j := 24) rfl
  have q25 := (K1.out).cell (j := 25) rfl
  have qz := (K1.out).lt
  (try dsimp only at q0 q9 q10 q11 q12 q13 q14 q15 q16 q17 q18 q19 q20 q21 q22 q23 q24 q25)
  go_wp2_with fail
  refine (CS.out _ HB0.out).mono ?_
  rintro e w1 ⟨hb1, v1, u1, x1, rfl, hv1, hu1, hx1⟩
  obtain ⟨Av, cv, rfl⟩ := rowV_form hv1.weak
  obtain ⟨Au, cu, rfl⟩ := rowV_form hu1.weak
  obtain ⟨Ax1, cx1, rfl⟩ : ∃ A c, x1 = .slice A Lx.length c := by
    obtain ⟨_, _, ⟨A, c, h, _⟩, _⟩ := id hx1
    exact ⟨A, c, h⟩
  have HB1 := Lib.hid (bthen HB0.out hb1)
  have HBW := Lib.hid hb1
  have HV1 := Lib.hid hv1
  have HU1 := Lib.hid hu1
  have HXx1 := Lib.hid hx1.weak
  clear p0 p1 pz q0 q9 q10 q11 q12 q13 q14 q15 q16 q17 q18 q19 q20 q21 q22 q23 q24 q25 qz hv1 hu1 hx1 hb1
  have p0 := (K0.out.on HBW.out).cell (j := 0) rfl
  have p1 := (K0.out.on HBW.out).cell (j := 1) rfl
  have pz := (K0.out.on HBW.out).lt
  have q0 := (K1.out.on HBW.out).cell (j := 0) rfl
  have q9 := (K1.out.on HBW.out).cell (j := 9) rfl
  have q10 := (K1.out.on HBW.out).cell (j := 10) rfl
  have q11 := (K1.out.on HBW.out).cell (j := 11) rfl
  have q12 := (K1.out.on HBW.out).cell (j := 12) rfl
  have q13 := (K1.out.on HBW.out).cell (j := 13) rfl
  have q14 := (K1.out.on HBW.out).cell (j := 14) rfl
  have q15 := (K1.out.on HBW.out).cell (j := 15) rfl
  have q16 := (K1.out.on HBW.out).cell (j := 16) rfl
  have q17 := (K1.out.on HBW.out).cell (j := 17) rfl
  have q18 := (K1.out.on HBW.out).cell (j := 18) rfl
  have q19 := (K1.out.on HBW.out).cell (j := 19) rfl
  have q20 := (K1.out.on HBW.out).cell (j := 20) rfl
  have q21 := (K1.out.on HBW.out).cell (j := 21) rfl
  have q22 := (K1.out.on HBW.out).cell (j := 22) rfl
  have q23 := (K1.out.on HBW.out).cell (j := 23) rfl
  have q24 := (K1.out.on HBW.out).cell (j := 24) rfl
  have q25 := (K1.out.on HBW.out).cell (j := 25) rfl
  have qz := (K1.out.on HBW.out).lt
  (try dsimp only at q0 q9 q10 q11 q12 q13 q14 q15 q16 q17 q18 q19 q20 q21 q22 q23 q24 q25)
  go_wp2_with fail
  have HBa := Lib.hid (show Below w.heap.size w (w1.alloc (.cells #[.slice Av os.length cv, .slice Au is1.length cu] 47)) from HB1.out.alloc HB1.out.size _)
  refine (CR.out _ HBa.out).mono ?_
  rintro e w2 ⟨hb2, v2, u2, x2, rfl, hv2, hu2, hx2⟩
  obtain ⟨Av2, cv2, rfl⟩ := rowV_form hv2
  obtain ⟨Au2, cu2, rfl⟩ := rowV_form hu2
  obtain ⟨Ax2, cx2, rfl⟩ : ∃ A c, x2 = .slice A Lx.length c := by
    obtain ⟨_, _, ⟨A, c, h, _⟩, _⟩ := id hx2
    exact ⟨A, c, h⟩
  clear p0 p1 pz q0 q9 q10 q11 q12 q13 q14 q15 q16 q17 q18 q19 q20 q21 q22 q23 q24 q25 qz
  go_upto_region 9 with fail
  obtain ⟨W2, hW2⟩ : ∃ W2, W2 = w2.alloc (.cells #[.slice Av2 os.length cv2, .slice Au2 is1.length cu2] 47) := ⟨_, rfl⟩
  have hb22 : Below w2.heap.size w2 W2 := by rw [hW2]; exact al1 _ _
  have hb12 : Below w1.heap.size w1 W2 := bthen (al1 _ _) (bthen hb2 hb22)
  have HA2 := Lib.hid (show Box W2 w1.heap.size [.slice Av os.length cv, .slice Au is1.length cu] from ((Box.new w1 _ _).on hb2).on hb22)
  have HE2 := Lib.hid (show Box W2 w2.heap.size [.slice Av2 os.length cv2, .slice Au2 is1.length cu2] by rw [hW2]; exact Box.new _ _ _)
  have HR2 := Lib.hid ((K2.out.on HBW.out).on hb12)
  have HV2 := Lib.hid (HV1.out.on hb12)
  have HU2 := Lib.hid (HU1.out.on hb12)
  have CSA := Lib.hid (fun (W' : World) (hW' : Below W2.heap.size W2 W') => same_now HWF.out hW' HV2.out.weak HU2.out.weak (hv2.on hb22) (hu2.on hb22))
  have HBT := Lib.hid (bthen HB1.out hb12)
  have hne1 : w.heap.size + 1 + 1 ≠ w1.heap.size := by have := HBW.out.size; have := KZ.out; omega
  have hne2 : w.heap.size + 1 + 1 ≠ w2.heap.size := by have := HBW.out.size; have := KZ.out; have := hb2.size; simp at this; omega
  have Dx := Lib.hid (fun (W' : World) (hW' : Below W2.heap.size W2 W') => Cx.out _ _ W2 W' hW' (HXx1.out.on hb12) (hx2.on hb22))
  rw [← hW2]
  clear hW2 hb22 hb12 hb2 hv2 hu2 hx2
  have hne1' := Ne.symm hne1
  have hne2' := Ne.symm hne2
  have a0 := HA2.out.cell (j := 0) rfl
  have a1 := HA2.out.cell (j := 1) rfl
  have az := HA2.out.lt
  have e0 := HE2.out.cell (j := 0) rfl
  have e1 := HE2.out.cell (j := 1) rfl
  have ez := HE2.out.lt
  have r0 := HR2.out.cell (j := 0) rfl
  have r1 := HR2.out.cell (j := 1) rfl
  have rz := HR2.out.lt
  go_region_held3 (fun w' => w'.cell? ⟨w1.heap.size, 0, none⟩ = some (.slice Av os.length cv) ∧ w'.cell? ⟨w1.heap.size, 1, none⟩ = some (.slice Au is1.length cu) ∧ w'.cell? ⟨w2.heap.size, 0, none⟩ = some (.slice Av2 os.length cv2) ∧ w'.cell? ⟨w2.heap.size, 1, none⟩ = some (.slice Au2 is1.length cu2)) (go_keep)
    (first
      | (go_at_call 49; refine (CSA.out _ (below_drewN (Below.refl _ _) 1)).mono ?_; rintro e w5 ⟨rfl, hb5⟩; have hc5 := bfar W2.heap.size hb5 (by simp); have HB5 := Lib.hid (bthen (below_drewN (Below.refl W2.heap.size W2) 1) hb5); have hz5 : W2.heap.size ≤ w5.heap.size := HB5.out.size; have g0 := (HR2.out.on HB5.out).free 0; have g1 := (HR2.out.on HB5.out).free 1; have gz := (HR2.out.on HB5.out).lt; clear hb5)
      | (go_at_call 24; refine (Dx.out _ HB5.out).mono ?_; rintro e w6 ⟨rfl, hb6⟩; have hc6 := bfar W2.heap.size hb6 hz5; have HB6 := Lib.hid (bthen HB5.out hb6); have hz6 : W2.heap.size ≤ w6.heap.size := HB6.out.size; clear g0 g1 gz; have g0 := (HR2.out.on HB6.out).free 0; have g1 := (HR2.out.on HB6.out).free 1; have gz := (HR2.out.on HB6.out).lt; clear hb6))
  all_goals
    go_wp2_with fail
    obtain ⟨Z, hZ⟩ : ∃ Z, Z = w6.setCells (w.heap.size + 1 + 1) 0 [.slice Av os.length cv, .slice Au is1.length cu] := ⟨_, rfl⟩
    have hZB : Below w.heap.size w Z := by rw [hZ]; exact below_puts (b := w.heap.size + 1 + 1) (by omega) 0 _ (bthen HBT.out HB6.out)
    have hZR : Box Z (w.heap.size + 1 + 1) [.slice Av os.length cv, .slice Au is1.length cu] := by rw [hZ]; exact (HR2.out.on HB6.out).put _ rfl
    have hlo : w.heap.size + 1 + 1 < W.heap.size := by have := KZ.out; omega
    have hZs : Z.heap.size = w6.heap.size := by rw [hZ]; exact size_puts _ _ _ _
    have hZV : RowV2 outCs 10 OutS.parts Z w.heap.size Z.heap.size (.slice Av os.length cv) os := by
      rw [hZs, hZ]
      exact (((HV2.out.on HB6.out).far hlo 0 _).far hlo 1 _).mono HB0.out.size (Nat.le_refl _)
    have hZU : RowV2 inCs 11 InS.parts Z w.heap.size Z.heap.size (.slice Au is1.length cu) is1 := by
      rw [hZs, hZ]
      exact (((HU2.out.on HB6.out).far hlo 0 _).far hlo 1 _).mono HB0.out.size (Nat.le_refl _)
    rw [show (w6.setCell ⟨w.heap.size + 1 + 1, 0, none⟩ (.slice Av os.length cv)).setCell ⟨w.heap.size + 1 + 1, 1, none⟩ (.slice Au is1.length cu) = Z from hZ.symm]
    clear hZ
    exact bodyPost_ret (res_tr2 rfl _ _ (w.heap.size + 1 + 1) (.slice Av os.length cv) (.slice Au is1.length cu) rfl hZR) rfl (HQ.out _ _ _ _ rfl hZB hZV hZU)

theorem step_any (os : List OutS) (is : List InS) (o : OpS) (v u x y : Value) (w : World) (hwf : WfS os is) (hv : RowV outCs 10 OutS.parts w w.heap.size v os) (hu : RowV inCs 11 InS.parts w w.heap.size u is) (hx : BS w w.heap.size x o.ab) (hy : BS w w.heap.size y o.lb) (ho : OpW o)
    (hal : o.ab.length ≤ 500) (hll : o.lb.length ≤ 100) (hn : 0 ≤ o.now) (hn2 : o.now ≤ 4611686018427387904) :
    ∃ os' is', WfS os' is' ∧ Calls Try.prog 25 #[.agg #[v, u], opV o x y] w (StepPost os' is' w) := by
  by_cases h0 : o.kind = 0
  · exact ⟨_, _, hwf.send o.acc o.ab o.now ho.1, step0 os is o v u x y w h0 hwf hv hu hx hy ho hal hn hn2⟩
  by_cases h1 : o.kind = 1
  · exact ⟨_, _, hwf.recv o.src o.dst o.isrc o.iv o.seq o.ttl o.low o.lb o.now (by omega), step1 os is o v u x y w h1 hwf hv hu hx hy ho hll hn hn2⟩
  by_cases h2 : o.kind = 2
  · exact ⟨_, _, hwf.acked o.src o.low o.lb.length, step2 os is o v u x y w h2 hwf hv hu hx hy ho⟩
  by_cases h3 : o.kind = 3
  · exact ⟨_, _, hwf.again o.now, step3 os is o v u x y w h3 hwf hv hu hx hy hn hn2⟩
  · exact ⟨_, _, hwf.acks o.now, step4 os is o v u x y w h0 h1 h2 h3 hwf hv hu hx hy⟩

theorem op_one (kind : Int) (asrc adst : Nat) (aapp : Bool) (attl : Int) (assrc aiv aseq : Nat) (A1 : Option Addr) (n1 c1 src dst isrc iv seq : Nat) (ttl onow : Int) (ct sg ap : Bool) (ze ix la op : Int) (bk : Nat) (fr : Bool) (A2 : Option Addr) (n2 c2 : Nat) :
    ∀ u ∈ ([.int .i64 kind, .int .u16 (asrc : Int), .int .u16 (adst : Int), .bool aapp, .int .i64 attl, .int .u16 (assrc : Int), .int .u32 (aiv : Int), .int .u32 (aseq : Int), .slice A1 n1 c1, .int .u16 (src : Int), .int .u16 (dst : Int), .int .u16 (isrc : Int), .int .u32 (iv : Int), .int .u32 (seq : Int), .int .i64 ttl, .int .i64 onow, .bool ct, .bool sg, .bool ap, .int .i64 ze, .int .i64 ix, .int .i64 la, .int .i64 op, .int .u32 (bk : Int), .bool fr, .slice A2 n2 c2] : List Value), u.oneCell' = true := by
  intro u hu
  simp only [List.mem_cons, List.not_mem_nil, or_false] at hu
  rcases hu with rfl | rfl | rfl | rfl | rfl | rfl | rfl | rfl | rfl | rfl | rfl | rfl | rfl | rfl | rfl | rfl | rfl | rfl | rfl | rfl | rfl | rfl | rfl | rfl | rfl | rfl <;> rfl

set_option maxRecDepth 100000 in
set_option maxHeartbeats 8000000 in
theorem transportSteps_walk (l : List OpS) (v : Value) (w : World) (h : OpsV w w.heap.size v l) : Calls Try.prog 8 #[v] w fun e w' => e = .returned (.bool true) ∧ Below w.heap.size w w' := by
  obtain ⟨A, c, rfl⟩ := h.form
  have HO := Lib.hid h
  have hlm : l.length ≤ 9223372036854775807 := by
    obtain ⟨_, _, ⟨A', c', hf, h1, h2, _⟩, _⟩ := h
    injection hf with _ hf _
    simp only [maxLen] at h2
    omega
  clear h
  obtain ⟨n, hn⟩ : ∃ n, n = l.length := ⟨_, rfl⟩
  rw [← hn] at hlm HO ⊢
  have HN := Lib.hid hn
  clear hn
  go_enter Try.func8, Try.ntmps8
  by_cases h120 : 120 < n
  · have g120 : decide ((120 : Int) < (n : Int)) = true := decide_eq_true (by omega)
    go_wp2_with fail
    refine (lives_any _).mono ?_
    rintro e w4 ⟨rfl, hb4⟩
    have HA4 := Lib.hid (hb4)
    clear hb4
    go_wp2
    go_ret
    exact ⟨rfl, HA4.out⟩
  · have g120 : decide ((120 : Int) < (n : Int)) = false := decide_eq_false (by omega)
    have g120' : ¬ (120 : Int) < (n : Int) := by omega
    go_wp2_with fail
    clear g120 g120'
    obtain ⟨W, hW⟩ : ∃ W, W = w.alloc (.cells #[.slice none 0 0, .slice none 0 0] 47) := ⟨_, rfl⟩
    have HX0 := Lib.hid (show Box W w.heap.size [.slice none 0 0, .slice none 0 0] by rw [hW]; exact Box.new _ _ _)
    have HB0 := Lib.hid (show Below w.heap.size w W by rw [hW]; exact al1 _ _)
    rw [← hW]
    clear hW
    go_loopw [4, 5] (fun nv iv wr => ∃ (j : Nat) (now : Int) (os : List OutS) (is : List InS) (v1 u1 : Value), j ≤ n ∧ iv = .int .i64 (j : Int) ∧ nv = .int .i64 now ∧ 0 ≤ now ∧ WfS os is ∧ Box wr w.heap.size [v1, u1] ∧ RowP outCs 10 OutS.parts wr (Av w.heap.size w.heap.size wr) v1 os ∧ RowP inCs 11 InS.parts wr (Av w.heap.size w.heap.size wr) u1 is ∧ Below w.heap.size w wr) (fun _ iv _ => n - (intOf iv).toNat)
    case atStart => exact ⟨0, 0, [], [], _, _, Nat.zero_le _, rfl, rfl, Int.le_refl _, WfS.nil, HX0.out, (RowV2.nil W (w.heap.size + 1) W.heap.size).toP (fun b h1 h2 => ⟨by omega, by omega, h2⟩), (RowV2.nil W (w.heap.size + 1) W.heap.size).toP (fun b h1 h2 => ⟨by omega, by omega, h2⟩), HB0.out⟩
    clear HX0 HB0
    case round =>
      obtain ⟨j, now, os, is, v1, u1, hj, rfl, rfl, hnow, hwf, hbx, hro, hri, hbel⟩ := hrel
      obtain ⟨Av1, cv1, rfl⟩ := rowV_form (row_reads hro)
      obtain ⟨Au1, cu1, rfl⟩ := rowV_form (row_reads hri)
      have HWF := Lib.hid hwf
      have HBX := Lib.hid hbx
      have HRO := Lib.hid hro
      have HRI := Lib.hid hri
      have HBE := Lib.hid hbel
      generalize hno : os.length = no at *
      generalize hni : is.length = ni at *
      have HNO := Lib.hid hno
      have HNI := Lib.hid hni
      clear hwf hbx hro hri hno hni
      by_cases hlt : j < n
      · have hjl : j < l.length := by rw [← HN.out]; exact hlt
        have hej := List.getElem?_eq_getElem hjl
        have hO := HO.out.below hbel
        rw [HN.out] at hO
        obtain ⟨b1, o1, x1, A1, A2, c1, c2, hf1, hB1, k1, s1, s2, hw⟩ := op_cells hO hej
        injection hf1 with hf1 hf2 hf3
        subst hf1 hf3
        clear hf2 hO
        have ij : (j : Int) < (n : Int) := by omega
        have i0 : (0 : Int) ≤ (j : Int) := by omega
        have hz1 : b1 < wr.heap.size := Nat.lt_of_lt_of_le hB1 hbel.size
        have HS1 := Lib.hid (s1.more hbel.size)
        have HS2 := Lib.hid (s2.more hbel.size)
        have HW := Lib.hid hw
        generalize l[j] = y at *
        obtain ⟨kind, ⟨asrc, adst, aapp, attl, assrc, aiv, aseq⟩, ab, src, dst, isrc, iv, seq, ttl, onow, ⟨ct, sg, ap, ze, ix, la, op, bk, fr⟩, lb⟩ := y
        dsimp only at HS1 HS2
        obtain ⟨n1, hn1⟩ : ∃ n1, n1 = ab.length := ⟨_, rfl⟩
        obtain ⟨n2, hn2⟩ : ∃ n2, n2 = lb.length := ⟨_, rfl⟩
        have HN1 := Lib.hid hn1
        have HN2 := Lib.hid hn2
        have HK1 := Lib.hid (show wr.rangeAt b1 (o1 + j * 26) [.int .i64 kind, .int .u16 (asrc : Int), .int .u16 (adst : Int), .bool aapp, .int .i64 attl, .int .u16 (assrc : Int), .int .u32 (aiv : Int), .int .u32 (aseq : Int), .slice A1 n1 c1, .int .u16 (src : Int), .int .u16 (dst : Int), .int .u16 (isrc : Int), .int .u32 (iv : Int), .int .u32 (seq : Int), .int .i64 ttl, .int .i64 onow, .bool ct, .bool sg, .bool ap, .int .i64 ze, .int .i64 ix, .int .i64 la, .int .i64 op, .int .u32 (bk : Int), .bool fr, .slice A2 n2 c2] from fun i y hy => by
          subst hn1 hn2
          exact k1 i y hy)
        clear hn1 hn2 k1 s1 s2 hw hej hjl hbel
        go_upto_region 8 with fail
        have HZB := Lib.hid (Box.new wr (List.toArray [.int .i64 0, .int .u16 0, .int .u16 0, .bool false, .int .i64 0, .int .u16 0, .int .u32 0, .int .u32 0, .slice none 0 0, .int .u16 0, .int .u16 0, .int .u16 0, .int .u32 0, .int .u32 0, .int .i64 0, .int .i64 0, .bool false, .bool false, .bool false, .int .i64 0, .int .i64 0, .int .i64 0, .int .i64 0, .int .u32 0, .bool false, .slice none 0 0]) 59)
        refine wp_region_lit ?_
        refine wpList_plain rfl fun K hK => ?_
        go_simp
        refine hK _ _ ?_
        clear hK K
        try simp only [Act.put, List.setIfInBounds_toArray, List.set_cons_zero, List.set_cons_succ]
        refine wpList_plain rfl fun K hK => ?_
        go_simp
        refine hK _ _ ?_
        clear hK K
        try simp only [Act.put, List.setIfInBounds_toArray, List.set_cons_zero, List.set_cons_succ]
        refine wpList_plain rfl fun K hK => ?_
        go_simp
        refine hK _ _ ?_
        clear hK K
        try simp only [Act.put, List.setIfInBounds_toArray, List.set_cons_zero, List.set_cons_succ]
        refine wpList_load_mid rfl 59 (.tmp 21) rfl b1 (o1 + j * 26) rfl [.int .i64 kind, .int .u16 (asrc : Int), .int .u16 (adst : Int), .bool aapp, .int .i64 attl, .int .u16 (assrc : Int), .int .u32 (aiv : Int), .int .u32 (aseq : Int), .slice A1 n1 c1, .int .u16 (src : Int), .int .u16 (dst : Int), .int .u16 (isrc : Int), .int .u32 (iv : Int), .int .u32 (seq : Int), .int .i64 ttl, .int .i64 onow, .bool ct, .bool sg, .bool ap, .int .i64 ze, .int .i64 ix, .int .i64 la, .int .i64 op, .int .u32 (bk : Int), .bool fr, .slice A2 n2 c2] _ HK1.out Try.underlying59 rfl (by kernel_rfl) ?_
        try simp only [Act.put, List.setIfInBounds_toArray, List.set_cons_zero, List.set_cons_succ]
        refine wpList_plain rfl fun K hK => ?_
        go_simp
        refine hK _ _ ?_
        clear hK K
        try simp only [Act.put, List.setIfInBounds_toArray, List.set_cons_zero, List.set_cons_succ]
        refine wpList_store_mid rfl 59 (.tmp 6) (.tmp 22) rfl wr.heap.size 0 _ rfl rfl ?_ (by kernel_rfl) (all_oneCell_toArray (op_one kind asrc adst aapp attl assrc aiv aseq A1 n1 c1 src dst isrc iv seq ttl onow ct sg ap ze ix la op bk fr A2 n2 c2)) ?_
        · intro i hi
          rw [Nat.zero_add]
          exact ⟨by rw [HZB.out.cell (j := i) (List.getElem?_eq_getElem (show i < 26 from hi))]; rfl, HZB.out.free i⟩
        refine wpList_nil ?_
        (try simp only [Act.put])
        (try simp only [List.toList_toArray])
        obtain ⟨W1, hW1⟩ : ∃ W1, W1 = (wr.alloc (.cells (List.toArray [.int .i64 0, .int .u16 0, .int .u16 0, .bool false, .int .i64 0, .int .u16 0, .int .u32 0, .int .u32 0, .slice none 0 0, .int .u16 0, .int .u16 0, .int .u16 0, .int .u32 0, .int .u32 0, .int .i64 0, .int .i64 0, .bool false, .bool false, .bool false, .int .i64 0, .int .i64 0, .int .i64 0, .int .i64 0, .int .u32 0, .bool false, .slice none 0 0]) 59)).setCells wr.heap.size 0 [.int .i64 kind, .int .u16 (asrc : Int), .int .u16 (adst : Int), .bool aapp, .int .i64 attl, .int .u16 (assrc : Int), .int .u32 (aiv : Int), .int .u32 (aseq : Int), .slice A1 n1 c1, .int .u16 (src : Int), .int .u16 (dst : Int), .int .u16 (isrc : Int), .int .u32 (iv : Int), .int .u32 (seq : Int), .int .i64 ttl, .int .i64 onow, .bool ct, .bool sg, .bool ap, .int .i64 ze, .int .i64 ix, .int .i64 la, .int .i64 op, .int .u32 (bk : Int), .bool fr, .slice A2 n2 c2] := ⟨_, rfl⟩
        have HBW := Lib.hid (show Below wr.heap.size wr W1 by rw [hW1]; exact below_puts (Nat.le_refl _) 0 _ (al1 _ _))
        have HOB := Lib.hid (show Box W1 wr.heap.size [.int .i64 kind, .int .u16 (asrc : Int), .int .u16 (adst : Int), .bool aapp, .int .i64 attl, .int .u16 (assrc : Int), .int .u32 (aiv : Int), .int .u32 (aseq : Int), .slice A1 n1 c1, .int .u16 (src : Int), .int .u16 (dst : Int), .int .u16 (isrc : Int), .int .u32 (iv : Int), .int .u32 (seq : Int), .int .i64 ttl, .int .i64 onow, .bool ct, .bool sg, .bool ap, .int .i64 ze, .int .i64 ix, .int .i64 la, .int .i64 op, .int .u32 (bk : Int), .bool fr, .slice A2 n2 c2] by rw [hW1]; exact HZB.out.put _ rfl)
        rw [← hW1]
        clear hW1 hz1 HZB
        go_upto_region 9 with fail
        obtain ⟨sb, hsb⟩ : ∃ sb, sb = decide (n2 ≤ 100) := ⟨_, rfl⟩
        have CSM := Lib.hid (fun W => small_any ⟨ct, sg, ap, ze, ix, la, op, bk, fr⟩ A2 n2 c2 W)
        simp only [← hsb] at CSM
        obtain ⟨bad, hbad⟩ : ∃ bad, bad = (decide (500 < n1) || !sb || decide (onow < now) || decide (1099511627776 < onow)) := ⟨_, rfl⟩
        have HBAD := Lib.hid hbad
        have HSB := Lib.hid hsb
        clear hbad hsb
        have q8 := HOB.out.cell (j := 8) rfl
        have q15 := HOB.out.cell (j := 15) rfl
        have q16 := HOB.out.cell (j := 16) rfl
        have q17 := HOB.out.cell (j := 17) rfl
        have q18 := HOB.out.cell (j := 18) rfl
        have q19 := HOB.out.cell (j := 19) rfl
        have q20 := HOB.out.cell (j := 20) rfl
        have q21 := HOB.out.cell (j := 21) rfl
        have q22 := HOB.out.cell (j := 22) rfl
        have q23 := HOB.out.cell (j := 23) rfl
        have q24 := HOB.out.cell (j := 24) rfl
        have q25 := HOB.out.cell (j := 25) rfl
        have qz := HOB.out.lt
        (try dsimp only at q8 q15 q16 q17 q18 q19 q20 q21 q22 q23 q24 q25)
        go_cut [44] (fun t wx => t = .bool bad ∧ Below W1.heap.size W1 wx)
        case first =>
          by_cases e1 : 500 < n1
          · have g1 : (500 : Int) < (n1 : Int) := by omega
            go_wp2_with fail
            refine Met.intro ?_
            go_step
            (repeat (first | apply ey64 | apply ey16 | apply ey4 | apply Exists.intro))
            refine ⟨?_, rfl⟩
            exact ⟨by rw [HBAD.out]; simp [e1], Below.refl _ _⟩
          · have g1 : ¬ (500 : Int) < (n1 : Int) := by omega
            have hb1 : decide (500 < n1) = false := decide_eq_false e1
            have HB1 := Lib.hid hb1
            clear hb1 e1
            rcases sb with _ | _
            · go_wp2_with (first | (go_at_call 11; refine (CSM.out _).mono ?_; rintro e w3 ⟨rfl, hb3⟩; have HB3 := Lib.hid hb3; clear hb3) | fail)
              refine Met.intro ?_
              go_step
              (repeat (first | apply ey64 | apply ey16 | apply ey4 | apply Exists.intro))
              refine ⟨?_, rfl⟩
              exact ⟨by rw [HBAD.out, HB1.out]; simp, HB3.out⟩
            · by_cases e3 : onow < now
              · go_wp2_with (first | (go_at_call 11; refine (CSM.out _).mono ?_; rintro e w3 ⟨rfl, hb3⟩; have HB3 := Lib.hid hb3; have y15 := (HOB.out.on hb3).cell (j := 15) rfl; have yz := (HOB.out.on hb3).lt; clear hb3) | fail)
                refine Met.intro ?_
                go_step
                (repeat (first | apply ey64 | apply ey16 | apply ey4 | apply Exists.intro))
                refine ⟨?_, rfl⟩
                exact ⟨by rw [HBAD.out, HB1.out]; simp [e3], HB3.out⟩
              · have hb3' : decide (onow < now) = false := decide_eq_false e3
                have HB3' := Lib.hid hb3'
                clear hb3'
                go_wp2_with (first | (go_at_call 11; refine (CSM.out _).mono ?_; rintro e w3 ⟨rfl, hb3⟩; have HB3 := Lib.hid hb3; have y15 := (HOB.out.on hb3).cell (j := 15) rfl; have yz := (HOB.out.on hb3).lt; clear hb3) | fail)
                refine Met.intro ?_
                go_step
                (repeat (first | apply ey64 | apply ey16 | apply ey4 | apply Exists.intro))
                refine ⟨?_, rfl⟩
                exact ⟨by rw [HBAD.out, HB1.out, HB3'.out]; simp, HB3.out⟩
        case rest =>
          obtain ⟨rfl, hbx1⟩ := hcut
          have HBC := Lib.hid (bthen HBW.out hbx1)
          have HOC := Lib.hid (HOB.out.on hbx1)
          clear hbx1 qz q8 q15 q16 q17 q18 q19 q20 q21 q22 q23 q24 q25
          rcases bad with _ | _
          · have hb := HBAD.out
            rw [HSB.out] at hb
            simp only [Bool.false_eq, Bool.or_eq_false_iff, Bool.not_eq_false', decide_eq_false_iff_not, decide_eq_true_eq] at hb
            obtain ⟨⟨⟨hq1, hq2⟩, hq3⟩, hq4⟩ := hb
            have hS1 := HS1.out.on HBC.out
            have hS2 := HS2.out.on HBC.out
            rw [← HN1.out] at hS1
            rw [← HN2.out] at hS2
            have hR1 := row_reads (row_on HRO.out HBC.out)
            have hR2 := row_reads (row_on HRI.out HBC.out)
            obtain ⟨os', is', hwf', hcall⟩ := step_any os is ⟨kind, ⟨asrc, adst, aapp, attl, assrc, aiv, aseq⟩, ab, src, dst, isrc, iv, seq, ttl, onow, ⟨ct, sg, ap, ze, ix, la, op, bk, fr⟩, lb⟩ (.slice Av1 no cv1) (.slice Au1 ni cu1) (.slice A1 n1 c1) (.slice A2 n2 c2) wc HWF.out hR1 hR2 hS1 hS2 HW.out (by show ab.length ≤ 500; have := HN1.out; omega) (by show lb.length ≤ 100; have := HN2.out; omega) (by show 0 ≤ onow; omega) (by show onow ≤ _; omega)
            have HWF2 := Lib.hid hwf'
            have HCALL := Lib.hid hcall
            have HNW := Lib.hid (show 0 ≤ onow by omega)
            unfold StepPost at HCALL
            clear hwf' hcall hS1 hS2 hR1 hR2 hq1 hq2 hq3 hq4
            have p0 := (HBX.out.on HBC.out).cell (j := 0) rfl
            have p1 := (HBX.out.on HBC.out).cell (j := 1) rfl
            have pz := (HBX.out.on HBC.out).lt
            have q15 := HOC.out.cell (j := 15) rfl
            have qz := HOC.out.lt
            (try dsimp only at q15)
            go_upto_region 11 with fail
            refine wp_region_lit ?_
            refine wpList_plain rfl fun K hK => ?_
            go_simp
            refine hK _ _ ?_
            clear hK K
            try simp only [Act.put, List.setIfInBounds_toArray, List.set_cons_zero, List.set_cons_succ]
            refine wpList_load_mid rfl 59 (.tmp 6) rfl wr.heap.size 0 rfl [.int .i64 kind, .int .u16 (asrc : Int), .int .u16 (adst : Int), .bool aapp, .int .i64 attl, .int .u16 (assrc : Int), .int .u32 (aiv : Int), .int .u32 (aseq : Int), .slice A1 n1 c1, .int .u16 (src : Int), .int .u16 (dst : Int), .int .u16 (isrc : Int), .int .u32 (iv : Int), .int .u32 (seq : Int), .int .i64 ttl, .int .i64 onow, .bool ct, .bool sg, .bool ap, .int .i64 ze, .int .i64 ix, .int .i64 la, .int .i64 op, .int .u32 (bk : Int), .bool fr, .slice A2 n2 c2] _ (fun i y hy => by rw [Nat.zero_add]; exact HOC.out.cell hy) Try.underlying59 rfl (by kernel_rfl) ?_
            try simp only [Act.put, List.setIfInBounds_toArray, List.set_cons_zero, List.set_cons_succ]
            refine wpList_plain rfl fun K hK => ?_
            go_simp
            refine HCALL.out.mono ?_
            rintro e w5 ⟨hb5, v2, u2, rfl, hv2, hu2⟩
            obtain ⟨Av2, cv2, rfl⟩ := rowV_form hv2.weak
            obtain ⟨Au2, cu2, rfl⟩ := rowV_form hu2.weak
            have HB5 := Lib.hid hb5
            have HV2 := Lib.hid hv2
            have HU2 := Lib.hid hu2
            clear hb5 hv2 hu2 p0 p1 pz qz q15
            go_simp
            refine hK _ _ ?_
            clear hK K
            try simp only [Act.put, List.setIfInBounds_toArray, List.set_cons_zero, List.set_cons_succ]
            have p0 := ((HBX.out.on HBC.out).on HB5.out).cell (j := 0) rfl
            have p1 := ((HBX.out.on HBC.out).on HB5.out).cell (j := 1) rfl
            have f0 := ((HBX.out.on HBC.out).on HB5.out).free 0
            have f1 := ((HBX.out.on HBC.out).on HB5.out).free 1
            have pz := ((HBX.out.on HBC.out).on HB5.out).lt
            go_wp2_with fail
            go_roundw
            case rel =>
              have htb : w.heap.size < wc.heap.size := (HBX.out.on HBC.out).lt
              have hbs := (bthen HBE.out (bthen HBC.out HB5.out)).setCell (p := ⟨w.heap.size, 0, none⟩) (Nat.le_refl _) (.slice Av2 os'.length cv2)
              have hbs2 := hbs.setCell (p := ⟨w.heap.size, 1, none⟩) (Nat.le_refl _) (.slice Au2 is'.length cu2)
              exact ⟨j + 1, onow, os', is', .slice Av2 os'.length cv2, .slice Au2 is'.length cu2, by omega, by go_num, rfl, HNW.out, HWF2.out, ((((HBX.out.on HBC.out).on HB5.out).set 0 (.slice Av2 os'.length cv2)).set 1 (.slice Au2 is'.length cu2)).alloc _, row_on (row_far (row_far (row_new HV2.out htb htb) (.inl rfl) 0 _) (.inl rfl) 1 _) (al1 _ _), row_on (row_far (row_far (row_new HU2.out htb htb) (.inl rfl) 0 _) (.inl rfl) 1 _) (al1 _ _), hbs2.alloc hbs2.size _⟩
            case measure => simp [intOf]; omega
          · go_wp2_with fail
            go_roundw
            case rel =>
              exact ⟨j + 1, now, os, is, _, _, by omega, by go_num, rfl, hnow, HWF.out, HBX.out.on HBC.out, by rw [← HNO.out]; exact row_on (HNO.out ▸ HRO.out) HBC.out, by rw [← HNI.out]; exact row_on (HNI.out ▸ HRI.out) HBC.out, bthen HBE.out HBC.out⟩
            case measure => simp [intOf]; omega
      · have hje : j = n := by omega
        subst hje
        go_wp2_with fail
        refine (lives_any _).mono ?_
        rintro e w4 ⟨rfl, hb4⟩
        have HA4 := Lib.hid (bthen HBE.out hb4)
        clear hb4
        go_wp2
        go_ret
        exact ⟨rfl, HA4.out⟩
end Go.Proofs.Ytkpjinkkjbljkaa
