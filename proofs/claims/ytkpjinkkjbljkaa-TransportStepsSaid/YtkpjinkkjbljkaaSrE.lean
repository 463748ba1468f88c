/- The reference: Receive. -/
import Derived.Test.YtkpjinkkjbljkaaSrD
import Derived.Test.YtkpjinkkjbljkaaSrC
import Derived.Test.YtkpjinkkjbljkaaSsA
namespace Go.Proofs.Ytkpjinkkjbljkaa
open Go.RowKit

/-- Many values at once: for the kernel this is little where one at a time is much. -/
theorem ey64 {P : Value → Value → Value → Value → Value → Value → Value → Value → Value → Value → Value → Value → Value → Value → Value → Value → Value → Value → Value → Value → Value → Value → Value → Value → Value → Value → Value → Value → Value → Value → Value → Value → Value → Value → Value → Value → Value → Value → Value → Value → Value → Value → Value → Value → Value → Value → Value → Value → Value → Value → Value → Value → Value → Value → Value → Value → Value → Value → Value → Value → Value → Value → Value → Value → Prop} (a0 a1 a2 a3 a4 a5 a6 a7 a8 a9 a10 a11 a12 a13 a14 a15 a16 a17 a18 a19 a20 a21 a22 a23 a24 a25 a26 a27 a28 a29 a30 a31 a32 a33 a34 a35 a36 a37 a38 a39 a40 a41 a42 a43 a44 a45 a46 a47 a48 a49 a50 a51 a52 a53 a54 a55 a56 a57 a58 a59 a60 a61 a62 a63 : Value) (h : P a0 a1 a2 a3 a4 a5 a6 a7 a8 a9 a10 a11 a12 a13 a14 a15 a16 a17 a18 a19 a20 a21 a22 a23 a24 a25 a26 a27 a28 a29 a30 a31 a32 a33 a34 a35 a36 a37 a38 a39 a40 a41 a42 a43 a44 a45 a46 a47 a48 a49 a50 a51 a52 a53 a54 a55 a56 a57 a58 a59 a60 a61 a62 a63) : ∃ a0 a1 a2 a3 a4 a5 a6 a7 a8 a9 a10 a11 a12 a13 a14 a15 a16 a17 a18 a19 a20 a21 a22 a23 a24 a25 a26 a27 a28 a29 a30 a31 a32 a33 a34 a35 a36 a37 a38 a39 a40 a41 a42 a43 a44 a45 a46 a47 a48 a49 a50 a51 a52 a53 a54 a55 a56 a57 a58 a59 a60 a61 a62 a63, P a0 a1 a2 a3 a4 a5 a6 a7 a8 a9 a10 a11 a12 a13 a14 a15 a16 a17 a18 a19 a20 a21 a22 a23 a24 a25 a26 a27 a28 a29 a30 a31 a32 a33 a34 a35 a36 a37 a38 a39 a40 a41 a42 a43 a44 a45 a46 a47 a48 a49 a50 a51 a52 a53 a54 a55 a56 a57 a58 a59 a60 a61 a62 a63 := ⟨a0, a1, a2, a3, a4, a5, a6, a7, a8, a9, a10, a11, a12, a13, a14, a15, a16, a17, a18, a19, a20, a21, a22, a23, a24, a25, a26, a27, a28, a29, a30, a31, a32, a33, a34, a35, a36, a37, a38, a39, a40, a41, a42, a43, a44, a45, a46, a47, a48, a49, a50, a51, a52, a53, a54, a55, a56, a57, a58, a59, a60, a61, a62, a63, h⟩
theorem ey16 {P : Value → Value → Value → Value → Value → Value → Value → Value → Value → Value → Value → Value → Value → Value → Value → Value → Prop} (a0 a1 a2 a3 a4 a5 a6 a7 a8 a9 a10 a11 a12 a13 a14 a15 : Value) (h : P a0 a1 a2 a3 a4 a5 a6 a7 a8 a9 a10 a11 a12 a13 a14 a15) : ∃ a0 a1 a2 a3 a4 a5 a6 a7 a8 a9 a10 a11 a12 a13 a14 a15, P a0 a1 a2 a3 a4 a5 a6 a7 a8 a9 a10 a11 a12 a13 a14 a15 := ⟨a0, a1, a2, a3, a4, a5, a6, a7, a8, a9, a10, a11, a12, a13, a14, a15, h⟩
theorem ey4 {P : Value → Value → Value → Value → Prop} (a0 a1 a2 a3 : Value) (h : P a0 a1 a2 a3) : ∃ a0 a1 a2 a3, P a0 a1 a2 a3 := ⟨a0, a1, a2, a3, h⟩

theorem place_good {is : List InS} {src dst iv ze : Nat} {p : Low} (h : (placeR is src dst iv ze p).2 = true) : ∃ fo xi, is.findIdx? (sameIn src dst iv ze) = fo ∧ pickIn is src dst ze iv p = (xi, dropO fo is) ∧ ((fo = none ∧ xi = newIn src dst ze iv p) ∨ ∃ i, fo = some i ∧ is[i]? = some xi ∧ xi.last = p.last ∧ xi.app = p.app) := by
  unfold placeR at h
  unfold pickIn
  cases hf : is.findIdx? (sameIn src dst iv ze) with
  | none => exact ⟨none, _, rfl, rfl, .inl ⟨rfl, rfl⟩⟩
  | some i =>
    rw [hf] at h
    obtain ⟨hi, _, _⟩ := List.findIdx?_eq_some_iff_getElem.1 hf
    have hx : is.getD i ⟨0, 0, false, 0, 0, 0, [], 0, 0, 0, false⟩ = is[i] := by rw [List.getD_eq_getElem?_getD, List.getElem?_eq_getElem hi]; rfl
    simp only [hx] at h ⊢
    cases ho : otherIn p is[i] with
    | true => rw [ho] at h; simp at h
    | false =>
      refine ⟨some i, is[i], rfl, rfl, .inr ⟨i, rfl, List.getElem?_eq_getElem hi, ?_, ?_⟩⟩
      · unfold otherIn at ho; simp at ho; exact ho.2
      · unfold otherIn at ho; simp at ho; exact ho.1
theorem many_setX {w w3 wx : World} {bm : Nat} {t : Value} {G : List Msg} (h : ManyP accF 8 (fun a => a.2) wx (PQ w w3 bm wx) t G) (hl : w3.heap.size ≤ bm ∧ w.heap.size ≤ w3.heap.size) (j : Nat) (u : Value) : ManyP accF 8 (fun a => a.2) (wx.setCell ⟨bm, j, none⟩ u) (PQ w w3 bm (wx.setCell ⟨bm, j, none⟩ u)) t G := by
  refine (h.keep fun b o hb => ?_).imp fun _ hb' => hb'.on (by simp)
  have hne : b ≠ bm := by
    rcases hb with hb | hb
    · omega
    · exact hb.2.1
  unfold World.cell?
  rw [heap_setCell_other _ ⟨bm, j, none⟩ b u (show b ≠ bm from hne)]
theorem manyP_far {α : Type} {f : α → Value → List Value} {m : Nat} {bf : α → List UInt8} {w : World} {P : Nat → Prop} {v : Value} {os : List α} {c : Nat} (h : ManyP f m bf w P v os) (hc : ∀ b, P b → b ≠ c) (j : Nat) (x : Value) : ManyP f m bf (w.setCell ⟨c, j, none⟩ x) P v os :=
  h.keep fun b o hb => by
    unfold World.cell?
    rw [heap_setCell_other _ ⟨c, j, none⟩ b x (hc b hb)]
theorem manyP_nil {α : Type} {f : α → Value → List Value} {m : Nat} {bf : α → List UInt8} (w : World) (P : Nat → Prop) : ManyP f m bf w P (.slice none 0 0) [] :=
  ⟨[], rfl, ⟨none, 0, rfl, Nat.le_refl _, Nat.zero_le _, by simp [flat2], .inl rfl⟩, fun k p u h => by simp at h⟩
theorem gotIn_fin {src dst iv ze k : Nat} {x : InS} {bl : List UInt8} {ttl now : Int} {nd : Bool} (h : x.fin = true) : gotIn src dst iv ze x k bl ttl now nd = [] := by
  unfold gotIn midIn
  rw [if_pos h]
  exact if_neg (by simp)
theorem midIn_fin {x : InS} {k : Nat} {bl : List UInt8} {ttl now : Int} {nd : Bool} (h : x.fin = true) : (midIn x k bl ttl now nd).1 = x := by
  unfold midIn
  rw [if_pos h]
theorem full_sub {i : Nat} (hi : i ≤ 31) : IntKind.u32.wrap (((full (i + 1) : Nat) : Int) - ((full i : Nat) : Int)) = ((2 ^ i : Nat) : Int) := by
  have h := full_succ i
  have h1 : 2 ^ i ≤ 2 ^ 31 := Nat.pow_le_pow_right (by omega) hi
  have h2 : 2 ^ 31 = 2147483648 := by decide
  generalize full (i + 1) = x at *
  generalize full i = y at *
  generalize 2 ^ i = z at *
  rw [show (x : Int) - (y : Int) = (z : Int) by omega]
  exact IntWalk.u32_in _ (by omega)
theorem or_new {b k : Nat} (hb : b < 4294967296) (hk : k ≤ 31) (h0 : b / 2 ^ k % 2 = 0) : bits BinOp.or IntKind.u32 (b : Int) ((2 ^ k : Nat) : Int) = ((b + 2 ^ k : Nat) : Int) := by
  have h := u32_or_nat b (2 ^ k) hb (Nat.lt_of_le_of_lt (Nat.pow_le_pow_right (by omega) hk) (show 2 ^ 31 < 4294967296 by decide))
  rw [or_bit h0] at h
  exact h
/-- A field of the message is stored, its slice's among them. -/
theorem QSt.store {x x' : InS} {w w3 wx : World} {bm : Nat} {vm vm' : Value} (h : QSt x w w3 wx bm vm) {j : Nat} {u : Value} (hs : (inCs x vm).set j u = inCs x' vm') (hp : PartsP wx (PQ w w3 bm wx) vm' x'.parts) : QSt x' w w3 (wx.setCell ⟨bm, j, none⟩ u) bm vm' := by
  refine ⟨h.be.setCell (p := ⟨bm, j, none⟩) h.lt.1 _, by rw [← hs]; exact h.bx.set j u, ?_, h.lt⟩
  refine (hp.keep fun b o hb => ?_).imp fun _ hb' => hb'.on (by simp)
  have hne : b ≠ bm := by
    rcases hb with hb | hb
    · have := h.lt
      omega
    · exact hb.2.1
  unfold World.cell?
  rw [heap_setCell_other _ ⟨bm, j, none⟩ b u (show b ≠ bm from hne)]
theorem partsP_nil (w : World) (P : Nat → Prop) : PartsP w P (.slice none 0 0) [] :=
  ⟨[], rfl, ⟨none, 0, rfl, Nat.le_refl _, Nat.zero_le _, rfl, .inl rfl⟩, fun k u p hu _ => by simp at hu⟩
/-- A part is stored into a row of the call's own. -/
theorem partsP_put {w : World} {P P1 : Nat → Prop} {base g n c k : Nat} {us : List Value} {ps : List (List UInt8)} {u : Value} {bl : List UInt8} (h : w.ownsRow base 23 1 (.slice (some ⟨g, 0, none⟩) n c) n us) (hn : n = ps.length) (hl : us.length = ps.length) (hk : k < ps.length)
    (h3 : ∀ (j : Nat) v p, us[j]? = some v → ps[j]? = some p → BSP w P1 v p) (hu : BSP w P1 u bl) (hg : P g) (hP : ∀ b, P1 b → P b ∧ b ≠ g) : PartsP (w.setCell ⟨g, k, none⟩ u) P (.slice (some ⟨g, 0, none⟩) n c) (ps.set k bl) := by
  have far : ∀ {v : Value} {p : List UInt8}, BSP w P1 v p → BSP (w.setCell ⟨g, k, none⟩ u) P v p := fun hb => (SlP.keep hb fun b o hb' => by
    unfold World.cell?
    rw [heap_setCell_other _ ⟨g, k, none⟩ b u (show b ≠ g from (hP b hb').2)]).imp fun b hb' => (hP b hb').1
  have hst := (h.stored k u).1
  refine ⟨us.set k u, by simp [hl], ?_, fun j v p hv hp => ?_⟩
  · rw [List.length_set, ← hn]
    obtain ⟨A, c', e, h1, h2, h3', h4⟩ := Sl.of_own hst
    injection e with e1 e2 e3
    subst e1 e3
    refine ⟨_, c, rfl, h1, h2, h3', ?_⟩
    rcases h4 with h4 | ⟨b, off, hA, _, hc⟩
    · exact .inl h4
    · injection hA with hA
      injection hA with hb ho
      subst hb ho
      exact .inr ⟨_, _, rfl, hg, hc⟩
  · by_cases hjk : j = k
    · subst hjk
      rw [List.getElem?_set_self (by omega)] at hv
      rw [List.getElem?_set_self hk] at hp
      obtain rfl := Option.some.inj hv
      obtain rfl := Option.some.inj hp
      exact far hu
    · rw [List.getElem?_set_ne (Ne.symm hjk)] at hv hp
      exact far (h3 j v p hv hp)
/-- A part that came is stored. -/
theorem QSt.placed {y z : InS} {w w3 wc w9 Wc w8 : World} {bm g n c9 k : Nat} {us : List Value} {vm v8 : Value} {bl : List UInt8} (hq : QSt y w w3 wc bm vm) (hb9 : Below wc.heap.size wc w9) (hbw : Below w3.heap.size w3 Wc) (hzc : Wc.heap.size = w9.heap.size)
    (hx : BT Wc bm 95 (inCs y (.slice (some ⟨g, 0, none⟩) n c9))) (he : ∀ (j : Nat) v p, us[j]? = some v → y.parts[j]? = some p → BSP Wc (PQ w w3 bm wc) v p)
    (hr : w8.ownsRow wc.heap.size 23 1 (.slice (some ⟨g, 0, none⟩) n c9) n us) (hb8 : Below Wc.heap.size Wc w8) (hg : wc.heap.size ≤ g ∧ g < w9.heap.size) (ho : OB w8 Wc.heap.size v8 bl) (hn : y.parts.length = n) (hl : us.length = n) (hk : k < n)
    (hz : z = { y with parts := y.parts.set k bl }) : QSt z w w3 (w8.setCell ⟨g, k, none⟩ v8) bm (.slice (some ⟨g, 0, none⟩) n c9) := by
  have hsd : (w8.setCell ⟨g, k, none⟩ v8).heap.size = w8.heap.size := by simp
  have hs1 := hb8.size
  have hs3 := hq.be.size
  have hs9 := hb9.size
  have hbm : bm < wc.heap.size := hq.bx.box.lt
  have hlt : ∀ b, PQ w w3 bm wc b → b < wc.heap.size := fun b hb => hb.lt hq.lt.2 hq.be.size
  have hql := hq.lt
  refine ⟨(bthen hbw hb8).setCell (p := ⟨g, k, none⟩) (by show w3.heap.size ≤ g; omega) _, ?_, ?_, hq.lt⟩
  · rw [hz]
    exact (hx.on hb8).far (p := ⟨g, k, none⟩) (by show bm ≠ g; omega) v8
  · rw [hz]
    refine partsP_put (P1 := fun b => PQ w w3 bm wc b ∨ (w9.heap.size ≤ b ∧ b < w8.heap.size)) hr hn.symm (hl.trans hn.symm) (by omega) (fun j v p hv hp => (SlP.keep (he j v p hv hp) fun b o hb => hb8.cell (p := ⟨b, o, none⟩) (by have := hlt b hb; show b < _; omega)).imp fun b hb => .inl hb) ?_ ?_ ?_
    · exact Sl2.toP (BS2.of_own ho) fun b h1 h2 => .inr ⟨by omega, h2⟩
    · exact .inr ⟨by omega, by omega, by omega⟩
    · intro b hb
      rcases hb with hb | hb
      · have h1 := hlt b hb
        exact ⟨hb.on (by omega), by omega⟩
      · exact ⟨.inr ⟨by omega, by omega, by omega⟩, by omega⟩
theorem putIn_blk {x : InS} {k : Nat} {bl : List UInt8} {ttl : Int} {n : Nat} (h : x.blk < 2 ^ n) (hk : k < n) : (putIn x k bl ttl).blk < 2 ^ n := by
  by_cases h0 : x.blk / 2 ^ k % 2 = 0
  · rw [putIn_yes h0]; exact or_lt h hk h0
  · rw [putIn_no h0]; exact h
/-- What is joined. -/
structure JSt (Y : InS) (w w3 wx : World) (bm ab base : Nat) (vm v : Value) (a : AccS) (L : List UInt8) : Prop where
  q : QSt Y w w3 wx bm vm
  bx : Box wx ab (accCs a v)
  own : OB wx base v L
  lt : bm < ab ∧ ab < base ∧ base ≤ wx.heap.size
/-- What a message that is being put together bears. -/
structure WfX (x : InS) (ln : Nat) (ap : Bool) : Prop where
  last : x.last = (ln : Int)
  app : x.app = ap
  len : x.fin = false → x.parts.length = ln + 1
  blk : x.blk < 2 ^ (ln + 1)
  small : ∀ p ∈ x.parts, p.length ≤ 65536
  parts : x.parts.length ≤ 32
theorem wfx_pick {is : List InS} {src dst iv ze ln : Nat} {p : Low} {fo : Option Nat} {xi : InS} (hi : WfIs is) (hb : ∀ x ∈ is, x.blk < 2 ^ (x.last + 1).toNat) (hl : p.last = (ln : Int)) (hln : ln ≤ 31)
    (h : (fo = none ∧ xi = newIn src dst ze iv p) ∨ ∃ i, fo = some i ∧ is[i]? = some xi ∧ xi.last = p.last ∧ xi.app = p.app) : WfX xi ln p.app := by
  rcases h with ⟨_, rfl⟩ | ⟨i, _, hx, h1, h2⟩
  · have e : (p.last + 1).toNat = ln + 1 := by omega
    refine ⟨hl, rfl, fun _ => ?_, Nat.two_pow_pos _, fun q hq => ?_, ?_⟩
    · show (List.replicate _ _).length = _
      rw [List.length_replicate, e]
    · rw [List.eq_of_mem_replicate (show q ∈ List.replicate _ [] from hq)]
      simp
    · show (List.replicate _ _).length ≤ _
      rw [List.length_replicate, e]
      omega
  · have hm := List.mem_of_getElem? hx
    obtain ⟨w1, w2, w3, w4, w5, w6⟩ := hi.2 xi hm
    have hbb := hb xi hm
    have e : (xi.last + 1).toNat = ln + 1 := by omega
    rw [e] at w3 hbb
    exact ⟨by omega, h2, w3, hbb, w5, w4⟩
set_option maxRecDepth 100000 in
set_option maxHeartbeats 8000000 in
theorem rrecv_seg (os : List OutS) (is : List InS) (src dst isrc iv seq : Nat) (ttl : Int) (p : Low) (bl : List UInt8) (now : Int) (hbl : bl.length ≤ 65536) (hseq : seq < 4294967296) (v u bv : Value) (w : World)
    (hv : RowV outCs 10 OutS.parts w w.heap.size v os) (hu : RowV inCs 11 InS.parts w w.heap.size u is) (hbv : BS w w.heap.size bv bl) (hi : WfIs is) (hib : ∀ x ∈ is, x.blk < 2 ^ (x.last + 1).toNat) (hnow : 0 ≤ now) (hnow2 : now ≤ 4611686018427387904) (hok : chkL p bl.length = 0) (hc : p.ctl = false) (hs : p.seg = true) (hback : ¬ seq < backN seq p) (hpl : (placeR is src dst iv (seq - backN seq p) p).2 = true) :
    Calls Try.prog 51 #[.agg #[v, u], .int .u16 (src : Int), .int .u16 (dst : Int), .agg #[.int .u16 (isrc : Int), .int .u32 (iv : Int), .int .u32 (seq : Int)], .int .i64 ttl, lowV p bv, .int .i64 now] w (RRecvPost os (recvT is src dst isrc iv seq ttl p bl now) w) := by
  obtain ⟨fo, xi, hfo, hpk, hfit⟩ := place_good hpl
  have HR := Lib.hid (show recvT is src dst isrc iv seq ttl p bl now = (keep8 (dropO fo is ++ [ackIn (midIn xi p.idx.toNat bl ttl now (isNode dst)).1 (isNode dst) now]), gotIn src dst iv (seq - backN seq p) xi p.idx.toNat bl ttl now (isNode dst), (midIn xi p.idx.toNat bl ttl now (isNode dst)).1.fin && isNode dst) from by unfold recvT; rw [if_neg (by rw [hok, hc]; simp), if_neg (by rw [hs]; simp), if_neg hback, if_neg (by rw [hpl]; simp)]; dsimp only; rw [hpk])
  generalize recvT is src dst isrc iv seq ttl p bl now = r at *
  have HQ := Lib.hid (show ∀ (e : Ending) (w' : World) (v u x : Value), e = .returned (.tuple #[.agg #[v, u], x, .bool r.2.2]) → Below w.heap.size w w' → RowV outCs 10 OutS.parts w' w'.heap.size v os → RowV inCs 11 InS.parts w' w'.heap.size u r.1 → AccsV w' w'.heap.size x r.2.1 → RRecvPost os r w e w' from fun e w' v u x h1 h2 h3 h4 h5 => ⟨h2, v, u, x, h1, h3, h4, h5⟩)
  generalize RRecvPost os r w = Q at *
  obtain ⟨A1, c1, rfl⟩ := rowV_form hv
  obtain ⟨A2, c2, rfl⟩ := rowV_form hu
  obtain ⟨A, c, rfl, _⟩ := id hbv
  have HV := Lib.hid hv
  have HU := Lib.hid hu
  have CK := Lib.hid (rtcheck_any p A bl.length c)
  have HBV := Lib.hid hbv
  have HBL := Lib.hid hbl
  have HSEQ := Lib.hid hseq
  have HCS := Lib.hid (chk_seg hok hc hs)
  have HBK := Lib.hid hback
  have HLE := Lib.hid (show is.length ≤ 65536 from by have := hi.1; omega)
  have HL8 := Lib.hid hi.1
  have HFO := Lib.hid hfo
  have HFIT := Lib.hid hfit
  have HWX := Lib.hid (wfx_pick hi hib (show p.last = (p.last.toNat : Int) by have := chk_seg hok hc hs; omega) (by have := chk_seg hok hc hs; omega) hfit)
  rw [hok] at CK
  clear hok hback hi hib hpl hfo hfit hpk
  generalize hN : os.length = N at *
  generalize hM : is.length = M at *
  generalize hn : bl.length = n at *
  have HN := Lib.hid hN
  have HM := Lib.hid hM
  have Hn := Lib.hid hn
  clear hN hM hn hv hu hbv hbl hseq
  obtain ⟨ct, sg, ap, ze, ix, la, op, bk, fr⟩ := p
  go_enter Try.func51, Try.ntmps51
  go_upto_region 1 with fail
  obtain ⟨W, hW⟩ : ∃ W, W = (((w.alloc (.cells #[.slice A1 N c1, .slice A2 M c2] 47)).alloc (.cells #[.int .u16 (isrc : Int), .int .u32 (iv : Int), .int .u32 (seq : Int)] 41)).alloc (.cells #[.bool ct, .bool sg, .bool ap, .int .i64 ze, .int .i64 ix, .int .i64 la, .int .i64 op, .int .u32 (bk : Int), .bool fr, .slice A n c] 25)).alloc (.cells #[.slice none 0 0, .slice none 0 0] 47) := ⟨_, rfl⟩
  have hA : Below w.heap.size w W := by rw [hW]; exact al4 _ _ _ _ _
  have hb0 : Box W w.heap.size [.slice A1 N c1, .slice A2 M c2] := by rw [hW]; exact (((Box.new _ _ _).alloc _).alloc _).alloc _
  have hb1 : Box W (w.heap.size + 1) [.int .u16 (isrc : Int), .int .u32 (iv : Int), .int .u32 (seq : Int)] := ⟨41, by rw [hW, heap_al, if_neg (by simp), heap_al, if_neg (by simp), heap_al, if_pos (by simp)]⟩
  have hb2 : Box W (w.heap.size + 1 + 1) [.bool ct, .bool sg, .bool ap, .int .i64 ze, .int .i64 ix, .int .i64 la, .int .i64 op, .int .u32 (bk : Int), .bool fr, .slice A n c] := ⟨25, by rw [hW, heap_al, if_neg (by simp), heap_al, if_pos (by simp)]⟩
  have hb3 : Box W (w.heap.size + 1 + 1 + 1) [.slice none 0 0, .slice none 0 0] := ⟨47, by rw [hW, heap_al, if_pos (by simp)]⟩
  have HZ := Lib.hid (show W.heap.size = w.heap.size + 4 by rw [hW]; simp)
  rw [← hW]
  clear hW
  have HA := Lib.hid hA
  have H0 := Lib.hid hb0
  have H1 := Lib.hid hb1
  have H2 := Lib.hid hb2
  have H3 := Lib.hid hb3
  have q0 := hb2.cell (j := 0) rfl
  have q1 := hb2.cell (j := 1) rfl
  have q2 := hb2.cell (j := 2) rfl
  have q3 := hb2.cell (j := 3) rfl
  have q4 := hb2.cell (j := 4) rfl
  have q5 := hb2.cell (j := 5) rfl
  have q6 := hb2.cell (j := 6) rfl
  have q7 := hb2.cell (j := 7) rfl
  have q8 := hb2.cell (j := 8) rfl
  have q9 := hb2.cell (j := 9) rfl
  have z2 := hb2.lt
  clear hA hb0 hb1 hb2 hb3
  obtain ⟨l1, l2, l3, l4, l5, l6, l7, l8⟩ := HCS.out
  (try dsimp only at l1 l2 l3 l4 l5 l6)
  subst hc hs
  obtain ⟨zn, rfl⟩ := Int.eq_ofNat_of_zero_le l1
  obtain ⟨ln, rfl⟩ := Int.eq_ofNat_of_zero_le l3
  obtain ⟨xn, rfl⟩ := Int.eq_ofNat_of_zero_le l5
  have hsq := HSEQ.out
  have hbk : ((seq : Int) + 8192 - (zn : Int)) % 4294967296 % 8192 = ((backN seq ⟨false, true, ap, (zn : Int), (xn : Int), (ln : Int), op, bk, fr⟩ : Nat) : Int) := by
    unfold backN
    simp only [Int.toNat_natCast]
    omega
  have hbl2 : backN seq ⟨false, true, ap, (zn : Int), (xn : Int), (ln : Int), op, bk, fr⟩ < 8192 := by unfold backN; omega
  generalize backN seq ⟨false, true, ap, (zn : Int), (xn : Int), (ln : Int), op, bk, fr⟩ = bkn at *
  go_wp2_with fail
  refine (CK.out _).mono ?_
  rintro e w3 ⟨rfl, hb3⟩
  have HB3 := Lib.hid (HA.out.trans (hb3.mono HA.out.size))
  have K0 := Lib.hid (H0.out.on hb3)
  have K1 := Lib.hid (H1.out.on hb3)
  have K2 := Lib.hid (H2.out.on hb3)
  have K3 := Lib.hid (H3.out.on hb3)
  have KZ := Lib.hid (show w.heap.size + 4 ≤ w3.heap.size from Nat.le_trans (Nat.le_of_eq HZ.out.symm) hb3.size)
  clear hb3 q0 q1 q2 q3 q4 q5 q6 q7 q8 q9 z2 HA H0 H1 H2 H3 HZ CK
  have p0 := K0.out.cell (j := 0) rfl
  have p1 := K0.out.cell (j := 1) rfl
  have s0 := K1.out.cell (j := 0) rfl
  have s1 := K1.out.cell (j := 1) rfl
  have s2 := K1.out.cell (j := 2) rfl
  have q0 := K2.out.cell (j := 0) rfl
  have q1 := K2.out.cell (j := 1) rfl
  have q2 := K2.out.cell (j := 2) rfl
  have q3 := K2.out.cell (j := 3) rfl
  have q4 := K2.out.cell (j := 4) rfl
  have q5 := K2.out.cell (j := 5) rfl
  have q6 := K2.out.cell (j := 6) rfl
  have q7 := K2.out.cell (j := 7) rfl
  have q8 := K2.out.cell (j := 8) rfl
  have q9 := K2.out.cell (j := 9) rfl
  have e0 := K3.out.cell (j := 0) rfl
  have e1 := K3.out.cell (j := 1) rfl
  have f0 := K3.out.free 0
  have f1 := K3.out.free 1
  have z0 := K0.out.lt
  have z1 := K1.out.lt
  have z2 := K2.out.lt
  have z3 := K3.out.lt
  have hdb : decide (seq < bkn) = false := decide_eq_false HBK.out
  go_upto_region 6 with fail
  rw [hbk]
  go_upto_region 9 with fail
  have hzz : ((seq : Int) - (bkn : Int)) % 4294967296 = ((seq - bkn : Nat) : Int) := by have := HBK.out; omega
  rw [hzz]
  generalize hz : seq - bkn = zz at *
  clear hzz
  have hfn : findN is src dst zz iv = atN fo := by unfold findN atN; rw [HFO.out]; first | done | (cases fo <;> rfl)
  have CF := Lib.hid (rfind_any is src dst zz iv (.slice A2 M c2) w3 (HU.out.on HB3.out) (by rw [HM.out]; exact HLE.out))
  rw [hfn] at CF
  clear hfn
  go_wp2_with fail
  refine CF.out.mono ?_
  rintro e w5 ⟨rfl, hb5⟩
  have HB5 := Lib.hid hb5
  have hz4 := KZ.out
  clear hb5 p0 p1 s0 s1 s2 q0 q1 q2 q3 q4 q5 q6 q7 q8 q9 e0 e1 f0 f1 z0 z1 z2 z3 CF
  have p0 := (K0.out.on HB5.out).cell (j := 0) rfl
  have p1 := (K0.out.on HB5.out).cell (j := 1) rfl
  have s1 := (K1.out.on HB5.out).cell (j := 1) rfl
  have q2 := (K2.out.on HB5.out).cell (j := 2) rfl
  have q4 := (K2.out.on HB5.out).cell (j := 4) rfl
  have q5 := (K2.out.on HB5.out).cell (j := 5) rfl
  have q9 := (K2.out.on HB5.out).cell (j := 9) rfl
  have z0 := (K0.out.on HB5.out).lt
  have z1 := (K1.out.on HB5.out).lt
  have z2 := (K2.out.on HB5.out).lt
  obtain ⟨cur, hcur, mk⟩ := make_parts (ln + 1) (by omega)
  have mk2 : ∀ W : World, (Instr.makeSlice 73 (.int .i64 ((ln : Int) + 1)) (.int .i64 ((ln : Int) + 1))).run Try.prog W = .ok (.slice (some ⟨W.heap.size, 0, none⟩) (ln + 1) (ln + 1)) (W.alloc (.cells cur 23)) := mk
  have HCUR := Lib.hid hcur
  clear mk hcur
  go_upto_region 10 with fail
  go_cut [20] (fun t20 wx => ∃ (bm bp : Nat), t20 = .pointer (some ⟨bm, 0, none⟩) ∧ QSt (newIn src dst zz iv ⟨false, true, ap, (zn : Int), (xn : Int), (ln : Int), op, bk, fr⟩) w w3 wx bm (.slice (some ⟨bp, 0, none⟩) (ln + 1) (ln + 1)))
  case first =>
    have hwl : IntKind.i64.wrap ((ln : Int) + 1) = (ln : Int) + 1 := IntWalk.i64_in _ (by omega)
    go_region_held3 (fun w' => w'.cell? ⟨w.heap.size + 1, 1, none⟩ = some (.int .u32 (iv : Int)) ∧ w'.cell? ⟨w.heap.size + 1 + 1, 2, none⟩ = some (.bool ap) ∧ w'.cell? ⟨w.heap.size + 1 + 1, 5, none⟩ = some (.int .i64 (ln : Int))) (go_keep) (fail)
    all_goals
      clear mk2 hwl p0 p1 q2 q4 q5 q9 s1
      go_wp2_with fail
      refine Met.intro ?_
      go_step
      (repeat (first | apply ey64 | apply ey16 | apply ey4 | apply Exists.intro))
      refine ⟨?_, rfl⟩
    all_goals
      first
        | (refine ⟨w5.heap.size + 1, w5.heap.size, rfl, ⟨HB5.out.trans ((below_drewN (al2 _ _ _) 1).mono HB5.out.size), ?_, ?_, ⟨by have := HB5.out.size; omega, HB3.out.size⟩⟩⟩
           · exact (show BT (((w5.alloc (.cells cur 23)).alloc _).drew) (w5.heap.size + 1) _ _ from BT.on (by have h := BT.new (w5.alloc (.cells cur 23)) (inCs (newIn src dst zz iv ⟨false, true, ap, (zn : Int), (xn : Int), (ln : Int), op, bk, fr⟩) (.slice (some ⟨w5.heap.size, 0, none⟩) (ln + 1) (ln + 1))) 95; rw [World.size_alloc] at h; exact h) ((Below.refl _ _).drew))
           · show PartsP _ _ _ (List.replicate (((ln : Int) + 1).toNat) [])
             rw [show ((ln : Int) + 1).toNat = ln + 1 by omega]
             exact newP HCUR.out ((Box.new w5 cur 23).alloc _).drew (.inr ⟨HB5.out.size, by omega, by simp <;> omega⟩) (by omega))
        | (refine ⟨w5.heap.size, w5.heap.size + 1, rfl, ⟨HB5.out.trans ((below_drewN (al2 _ _ _) 1).mono HB5.out.size), ?_, ?_, ⟨HB5.out.size, HB3.out.size⟩⟩⟩
           · exact (show BT (((w5.alloc _).alloc (.cells cur 23)).drew) w5.heap.size _ _ from BT.on (BT.on (BT.new w5 (inCs (newIn src dst zz iv ⟨false, true, ap, (zn : Int), (xn : Int), (ln : Int), op, bk, fr⟩) (.slice (some ⟨w5.heap.size + 1, 0, none⟩) (ln + 1) (ln + 1))) 95) (al1 _ _)) ((Below.refl _ _).drew))
           · show PartsP _ _ _ (List.replicate (((ln : Int) + 1).toNat) [])
             rw [show ((ln : Int) + 1).toNat = ln + 1 by omega]
             exact newP HCUR.out (Box.drew (by have h := Box.new (w5.alloc (.cells (inCs (newIn src dst zz iv ⟨false, true, ap, (zn : Int), (xn : Int), (ln : Int), op, bk, fr⟩) (.slice (some ⟨w5.heap.size + 1, 0, none⟩) (ln + 1) (ln + 1))).toArray 95)) cur 23; rw [World.size_alloc] at h; exact h)) (.inr ⟨by have := HB5.out.size; omega, by omega, by simp <;> omega⟩) (by omega))
        | fail
  case rest =>
    obtain ⟨bm, bp, rfl, hQ0⟩ := hcut
    have HQ0 := Lib.hid hQ0
    clear hQ0 mk2 HCUR p0 p1 s1 q2 q4 q5 q9 z0 z1 z2 HB5
    go_upto_if 89 with fail
    go_cut [] (fun wx => ∃ vm, QSt xi w w3 wx bm vm)
    case first =>
      rcases HFIT.out with ⟨hfo, hxn⟩ | ⟨i, hfo, hxi, hl1, ha1⟩
      · subst hfo hxn
        have hat : atN none = -1 := rfl
        go_wp2_with fail
        refine Met.intro ?_
        go_step
        (repeat (first | apply ey64 | apply ey16 | apply ey4 | apply Exists.intro))
        refine ⟨?_, rfl⟩
        exact ⟨_, HQ0.out⟩
      · subst hfo
        have hat : atN (some i) = ((i : Nat) : Int) := rfl
        rw [hat]
        obtain ⟨b1, o1, cc, u1, hform, hB, hcell, hpv⟩ := rowP_cells inCs_len (by omega) (rowV_P HU.out) hxi
        injection hform with hf1 hf2 hf3
        clear hf2
        subst hf1 hf3
        obtain ⟨A7, n7, c7, rfl⟩ : ∃ A n c, u1 = .slice A n c := by
          obtain ⟨_, _, ⟨A, c, h, _⟩, _⟩ := id hpv
          exact ⟨A, _, c, h⟩
        obtain ⟨xs1, xd1, xa1, xz1, xi1, xl1, xp1, xb1, xdu1, xt1, xf1⟩ := xi
        have HBW := Lib.hid (show Below w.heap.size w wc from HB3.out.trans (HQ0.out.be.mono HB3.out.size))
        have d0 : wc.cell? ⟨b1, o1 + i * 11, none⟩ = some (.int .u16 (xs1 : Int)) := (HBW.out.cell (p := ⟨b1, _, none⟩) hB).trans (hcell 0 _ rfl)
        have d1 : wc.cell? ⟨b1, o1 + i * 11 + 1, none⟩ = some (.int .u16 (xd1 : Int)) := (HBW.out.cell (p := ⟨b1, _, none⟩) hB).trans (hcell 1 _ rfl)
        have d2 : wc.cell? ⟨b1, o1 + i * 11 + 2, none⟩ = some (.bool xa1) := (HBW.out.cell (p := ⟨b1, _, none⟩) hB).trans (hcell 2 _ rfl)
        have d3 : wc.cell? ⟨b1, o1 + i * 11 + 3, none⟩ = some (.int .u32 (xz1 : Int)) := (HBW.out.cell (p := ⟨b1, _, none⟩) hB).trans (hcell 3 _ rfl)
        have d4 : wc.cell? ⟨b1, o1 + i * 11 + 4, none⟩ = some (.int .u32 (xi1 : Int)) := (HBW.out.cell (p := ⟨b1, _, none⟩) hB).trans (hcell 4 _ rfl)
        have d5 : wc.cell? ⟨b1, o1 + i * 11 + 5, none⟩ = some (.int .i64 xl1) := (HBW.out.cell (p := ⟨b1, _, none⟩) hB).trans (hcell 5 _ rfl)
        have d6 : wc.cell? ⟨b1, o1 + i * 11 + 6, none⟩ = some (.slice A7 n7 c7) := (HBW.out.cell (p := ⟨b1, _, none⟩) hB).trans (hcell 6 _ rfl)
        have d7 : wc.cell? ⟨b1, o1 + i * 11 + 7, none⟩ = some (.int .u32 (xb1 : Int)) := (HBW.out.cell (p := ⟨b1, _, none⟩) hB).trans (hcell 7 _ rfl)
        have d8 : wc.cell? ⟨b1, o1 + i * 11 + 8, none⟩ = some (.int .i64 xdu1) := (HBW.out.cell (p := ⟨b1, _, none⟩) hB).trans (hcell 8 _ rfl)
        have d9 : wc.cell? ⟨b1, o1 + i * 11 + 9, none⟩ = some (.int .i64 xt1) := (HBW.out.cell (p := ⟨b1, _, none⟩) hB).trans (hcell 9 _ rfl)
        have d10 : wc.cell? ⟨b1, o1 + i * 11 + 10, none⟩ = some (.bool xf1) := (HBW.out.cell (p := ⟨b1, _, none⟩) hB).trans (hcell 10 _ rfl)
        have hiM : i < M := by rw [← HM.out]; exact (List.getElem?_eq_some_iff.1 hxi).1
        have i0 : (0 : Int) ≤ (i : Int) := by omega
        have iM : (i : Int) < (M : Int) := by omega
        have hbz : b1 < wc.heap.size := by have := HBW.out.size; omega
        have nb1 : b1 ≠ bm := by have := HQ0.out.lt; omega
        have HPV := Lib.hid (partsP_below hpv HBW.out fun _ h => h)
        have x0 := HQ0.out.bx.box.cell (j := 0) rfl
        have x1 := HQ0.out.bx.box.cell (j := 1) rfl
        have x2 := HQ0.out.bx.box.cell (j := 2) rfl
        have x3 := HQ0.out.bx.box.cell (j := 3) rfl
        have x4 := HQ0.out.bx.box.cell (j := 4) rfl
        have x5 := HQ0.out.bx.box.cell (j := 5) rfl
        have x6 := HQ0.out.bx.box.cell (j := 6) rfl
        have x7 := HQ0.out.bx.box.cell (j := 7) rfl
        have x8 := HQ0.out.bx.box.cell (j := 8) rfl
        have x9 := HQ0.out.bx.box.cell (j := 9) rfl
        have x10 := HQ0.out.bx.box.cell (j := 10) rfl
        have y0 := HQ0.out.bx.box.free 0
        have y1 := HQ0.out.bx.box.free 1
        have y2 := HQ0.out.bx.box.free 2
        have y3 := HQ0.out.bx.box.free 3
        have y4 := HQ0.out.bx.box.free 4
        have y5 := HQ0.out.bx.box.free 5
        have y6 := HQ0.out.bx.box.free 6
        have y7 := HQ0.out.bx.box.free 7
        have y8 := HQ0.out.bx.box.free 8
        have y9 := HQ0.out.bx.box.free 9
        have y10 := HQ0.out.bx.box.free 10
        have xz := HQ0.out.bx.box.lt
        have p1 := (K0.out.on HQ0.out.be).cell (j := 1) rfl
        have p0 := (K0.out.on HQ0.out.be).cell (j := 0) rfl
        have z0 := (K0.out.on HQ0.out.be).lt
        clear hcell hpv
        dsimp only at hl1 ha1
        have HL1 := Lib.hid hl1
        have HA1 := Lib.hid ha1
        clear hl1 ha1
        go_upto_region 13 with fail
        obtain ⟨Y, hY⟩ : ∃ Y, Y = wc.setCells bm 0 (inCs ⟨xs1, xd1, xa1, xz1, xi1, xl1, xp1, xb1, xdu1, xt1, xf1⟩ (.slice A7 n7 c7)) := ⟨_, rfl⟩
        rw [show ((((((((((wc.setCell ⟨bm, 0, none⟩ (.int .u16 (xs1 : Int))).setCell ⟨bm, 1, none⟩ (.int .u16 (xd1 : Int))).setCell ⟨bm, 2, none⟩ (.bool xa1)).setCell ⟨bm, 3, none⟩ (.int .u32 (xz1 : Int))).setCell ⟨bm, 4, none⟩ (.int .u32 (xi1 : Int))).setCell ⟨bm, 5, none⟩ (.int .i64 xl1)).setCell ⟨bm, 6, none⟩ (.slice A7 n7 c7)).setCell ⟨bm, 7, none⟩ (.int .u32 (xb1 : Int))).setCell ⟨bm, 8, none⟩ (.int .i64 xdu1)).setCell ⟨bm, 9, none⟩ (.int .i64 xt1)).setCell ⟨bm, 10, none⟩ (.bool xf1) = Y from hY.symm]
        have HQY := Lib.hid (show QSt ⟨xs1, xd1, xa1, xz1, xi1, xl1, xp1, xb1, xdu1, xt1, xf1⟩ w w3 Y bm (.slice A7 n7 c7) from ⟨by rw [hY]; exact below_puts HQ0.out.lt.1 0 _ HQ0.out.be, by rw [hY]; exact HQ0.out.bx.put _ rfl, by
          rw [hY]
          refine (partsP_below HPV.out (below_puts (b := bm) (B := w.heap.size) (by have := HQ0.out.lt; omega) 0 _ (Below.refl _ _)) fun _ h => h).imp fun _ h => .inl h, HQ0.out.lt⟩)
        clear hY d0 x0 y0 d1 x1 y1 d2 x2 y2 d3 x3 y3 d4 x4 y4 d5 x5 y5 d6 x6 y6 d7 x7 y7 d8 x8 y8 d9 x9 y9 d10 x10 y10 xz hbz p0 p1 z0
        have x2 := HQY.out.bx.box.cell (j := 2) rfl
        have x5 := HQY.out.bx.box.cell (j := 5) rfl
        have xz := HQY.out.bx.box.lt
        have q2 := (K2.out.on HQY.out.be).cell (j := 2) rfl
        have q5 := (K2.out.on HQY.out.be).cell (j := 5) rfl
        have z2 := (K2.out.on HQY.out.be).lt
        dsimp only at x2 x5
        have hl1 := HL1.out
        have ha1 := HA1.out
        subst hl1 ha1
        go_wp2_with fail
        refine Met.intro ?_
        go_step
        (repeat (first | apply ey64 | apply ey16 | apply ey4 | apply Exists.intro))
        refine ⟨?_, rfl⟩
        exact ⟨_, HQY.out⟩
    case rest =>
      obtain ⟨vm, hQ1⟩ := hcut
      have hwx := HWX.out
      rw [Int.toNat_natCast] at hwx HR
      obtain ⟨xs1, xd1, xa1, xz1, xi1, xl1, xp1, xb1, xdu1, xt1, xf1⟩ := xi
      obtain ⟨hla, haa, hlen, hblk, hsm, hp32⟩ := hwx
      dsimp only at hla haa hlen hblk hsm hp32
      have haa' := haa.symm
      subst hla haa'
      obtain ⟨A7, n7, c7, rfl⟩ : ∃ A n c, vm = .slice A n c := by
        obtain ⟨_, _, ⟨A, c, h, _⟩, _⟩ := id hQ1.pa
        exact ⟨A, _, c, h⟩
      have HQ1 := Lib.hid hQ1
      have HLEN := Lib.hid hlen
      have HBLK := Lib.hid hblk
      have HSM := Lib.hid hsm
      have HP32 := Lib.hid hp32
      have CN := Lib.hid (fun W => rnode_any dst W)
      obtain ⟨nd, hnd⟩ : ∃ nd, nd = isNode dst := ⟨_, rfl⟩
      rw [← hnd] at HR CN
      obtain ⟨G, hG⟩ : ∃ G, G = gotIn src dst iv zz (⟨xs1, xd1, ap, xz1, xi1, (ln : Int), xp1, xb1, xdu1, xt1, xf1⟩ : InS) xn bl ttl now nd := ⟨_, rfl⟩
      obtain ⟨MI, hMI⟩ : ∃ MI, MI = (midIn (⟨xs1, xd1, ap, xz1, xi1, (ln : Int), xp1, xb1, xdu1, xt1, xf1⟩ : InS) xn bl ttl now nd).1 := ⟨_, rfl⟩
      rw [← hG, ← hMI] at HR
      have HG := Lib.hid hG
      have HMI := Lib.hid hMI
      have hQ1' := HQ1.out
      have x10 := hQ1'.bx.box.cell (j := 10) rfl
      have xz := hQ1'.bx.box.lt
      dsimp only at x10
      clear HQ0 HFIT hQ1 hQ1' HWX HFO haa hlen hblk hsm hp32 hG hMI hnd
      go_upto_if 110 with fail
      go_cut [21] (fun t wx => ∃ vm, ManyP accF 8 (fun a => a.2) wx (PQ w w3 bm wx) t G ∧ QSt MI w w3 wx bm vm)
      case first =>
        rcases xf1 with _ | _
        · have x9 := HQ1.out.bx.box.cell (j := 9) rfl
          have h9 := HQ1.out.bx.box.free 9
          have x7 := HQ1.out.bx.box.cell (j := 7) rfl
          have q4 := (K2.out.on HQ1.out.be).cell (j := 4) rfl
          have z2 := (K2.out.on HQ1.out.be).lt
          have hbm : w.heap.size + 1 + 1 ≠ bm := by have := HQ1.out.lt; have := KZ.out; omega
          have hbm' := Ne.symm hbm
          dsimp only at x9 x7
          go_upto_region 18 with fail
          have HQ2 := Lib.hid (HQ1.out.set (j := 9) (u := .int .i64 ttl) (x' := ⟨xs1, xd1, ap, xz1, xi1, (ln : Int), xp1, xb1, xdu1, ttl, false⟩) rfl rfl)
          have hb32 : xb1 < 4294967296 := Nat.lt_of_lt_of_le HBLK.out (show 2 ^ (ln + 1) ≤ 4294967296 from Nat.pow_le_pow_right (n := 2) (by omega) (show ln + 1 ≤ 32 by omega))
          have CH := Lib.hid (fun W => rhas_any xb1 xn hb32 (by omega) W)
          clear hb32
          obtain ⟨hs, hhs⟩ : ∃ hs, hs = hasB xb1 xn := ⟨_, rfl⟩
          rw [← hhs] at CH
          have HHS := Lib.hid hhs
          clear hhs
          go_upto_if 118 with (first | (go_at_call 67; refine (CH.out _).mono ?_; rintro e w7 ⟨rfl, rfl⟩) | fail)
          go_cut [] (fun wx => ∃ vm, QSt (putIn (⟨xs1, xd1, ap, xz1, xi1, (ln : Int), xp1, xb1, xdu1, xt1, false⟩ : InS) xn bl ttl) w w3 wx bm vm)
          case first =>
            rcases hs with _ | _
            · have hm0 : xb1 / 2 ^ xn % 2 = 0 := by have h : ¬ (xb1 / 2 ^ xn % 2 = 1) := of_decide_eq_false HHS.out.symm; omega
              have hx31 : xn ≤ 31 := by omega
              have hb32 : xb1 < 4294967296 := Nat.lt_of_lt_of_le HBLK.out (show 2 ^ (ln + 1) ≤ 4294967296 from Nat.pow_le_pow_right (n := 2) (by omega) (show ln + 1 ≤ 32 by omega))
              have hor := or_new hb32 hx31 hm0
              have hwr := full_sub hx31
              have CF1 := Lib.hid (fun W => rfull_any (xn + 1) (by omega) W)
              have CF0 := Lib.hid (fun W => rfull_any xn (by omega) W)
              have hw1 : IntKind.i64.wrap ((xn : Int) + 1) = ((xn + 1 : Nat) : Int) := by rw [IntWalk.i64_in _ (by omega)]; push_cast; rfl
              obtain ⟨b2, hb2⟩ : ∃ b2, b2 = xb1 + 2 ^ xn := ⟨_, rfl⟩
              obtain ⟨f1, hf1⟩ : ∃ f1, f1 = full (xn + 1) := ⟨_, rfl⟩
              obtain ⟨f0, hf0⟩ : ∃ f0, f0 = full xn := ⟨_, rfl⟩
              obtain ⟨pw, hpw⟩ : ∃ pw, pw = 2 ^ xn := ⟨_, rfl⟩
              obtain ⟨x1, hx1⟩ : ∃ x1, x1 = xn + 1 := ⟨_, rfl⟩
              have HB2 := Lib.hid hb2
              have HM0 := Lib.hid hm0
              rw [← hb2, ← hpw] at hor
              rw [← hf1, ← hf0, ← hpw] at hwr
              rw [← hf1, ← hx1] at CF1
              rw [← hf0] at CF0
              rw [← hx1] at hw1
              clear hb2 hf1 hf0 hpw hx1 hm0 hb32 x9 h9 x7 q4 z2 x10 CH xz
              obtain ⟨Wa, hWa⟩ : ∃ Wa, Wa = wc.setCell ⟨bm, 9, none⟩ (.int .i64 ttl) := ⟨_, rfl⟩
              rw [← hWa] at HQ2 ⊢
              clear hWa
              have x7 := HQ2.out.bx.box.cell (j := 7) rfl
              have h7 := HQ2.out.bx.box.free 7
              have xz := HQ2.out.bx.box.lt
              have q4 := (K2.out.on HQ2.out.be).cell (j := 4) rfl
              have z2 := (K2.out.on HQ2.out.be).lt
              dsimp only at x7
              go_upto_region 19 with fail
              go_cut [] (fun wx => QSt ⟨xs1, xd1, ap, xz1, xi1, (ln : Int), xp1, b2, xdu1, ttl, false⟩ w w3 wx bm (.slice A7 n7 c7))
              case first =>
                -- <19
                refine wp_region_noPanic ?_
                refine wp_region_held_drew (S := fun w' => w'.cell? ⟨w.heap.size + 1 + 1, 4, none⟩ = some (.int .i64 (xn : Int))) (by kernel_rfl) (by (go_keep; try omega)) (fun hHeld => ?_)
                refine wpAnyH_take (i := 0) (v := ?_) rfl (by kernel_rfl) (by kernel_rfl) (by kernel_rfl) (fun _ _ _ h => h) (Or.inl ⟨by rfl, ?_⟩) (by assumption) ?_
                rotate_left
                · intro w hSw
                  (try dsimp only at hSw)
                  go_simp
                  first | done | with_reducible rfl
                simp only [Act.put, List.getElem_toArray, List.getElem_cons_zero, List.setIfInBounds_toArray, List.set_cons_zero, List.set_cons_succ]
                refine wpAnyH_take (i := 2) (v := ?_) rfl (by kernel_rfl) (by kernel_rfl) (by kernel_rfl) (fun _ _ _ h => h) (Or.inl ⟨by rfl, ?_⟩) (by assumption) ?_
                rotate_left
                · intro w hSw
                  (try dsimp only at hSw)
                  go_simp
                  first | done | with_reducible rfl
                simp only [Act.put, List.getElem_toArray, List.getElem_cons_succ, List.getElem_cons_zero, List.setIfInBounds_toArray, List.set_cons_zero, List.set_cons_succ]
                refine wpAnyH_take (i := 3) (v := ?_) rfl (by kernel_rfl) (by kernel_rfl) (by kernel_rfl) (fun _ _ _ h => h) (Or.inl ⟨by rfl, ?_⟩) (by assumption) ?_
                rotate_left
                · intro w hSw
                  (try dsimp only at hSw)
                  go_simp
                  first | done | with_reducible rfl
                simp only [Act.put, List.getElem_toArray, List.getElem_cons_succ, List.getElem_cons_zero, List.setIfInBounds_toArray, List.set_cons_zero, List.set_cons_succ]
                refine wpAnyH_take (i := 4) (v := ?_) rfl (by kernel_rfl) (by kernel_rfl) (by kernel_rfl) (fun _ _ _ h => h) (Or.inl ⟨by rfl, ?_⟩) (by assumption) ?_
                rotate_left
                · intro w hSw
                  (try dsimp only at hSw)
                  go_simp
                  first | done | with_reducible rfl
                simp only [Act.put, List.getElem_toArray, List.getElem_cons_succ, List.getElem_cons_zero, List.setIfInBounds_toArray, List.set_cons_zero, List.set_cons_succ]
                refine wpAnyH_take (i := 6) (v := ?_) rfl (by kernel_rfl) (by kernel_rfl) (by kernel_rfl) (fun _ _ _ h => h) (Or.inl ⟨by rfl, ?_⟩) (by assumption) ?_
                rotate_left
                · intro w hSw
                  (try dsimp only at hSw)
                  go_simp
                  first | done | with_reducible rfl
                simp only [Act.put, List.getElem_toArray, List.getElem_cons_succ, List.getElem_cons_zero, List.setIfInBounds_toArray, List.set_cons_zero, List.set_cons_succ]
                refine wpAnyH_take (i := 7) (v := ?_) rfl (by kernel_rfl) (by kernel_rfl) (by kernel_rfl) (fun _ _ _ h => h) (Or.inl ⟨by rfl, ?_⟩) (by assumption) ?_
                rotate_left
                · intro w hSw
                  (try dsimp only at hSw)
                  go_simp
                  first | done | with_reducible rfl
                simp only [Act.put, List.getElem_toArray, List.getElem_cons_succ, List.getElem_cons_zero, List.setIfInBounds_toArray, List.set_cons_zero, List.set_cons_succ]
                refine wpAnyH_ready (rs := [1, 5]) (by kernel_rfl) (by simp) ?_
                refine AllReadyH.cons rfl (fun K hK => ?_) (AllReadyH.cons rfl (fun K hK => ?_) AllReadyH.nil)
                · go_simp
                  first | (refine hK.out _ _ ?_ (fun hHeld => ?_)) | (go_wp2_with fail; refine hK.out _ _ ?_ (fun hHeld => ?_))
                  · (go_keep; try omega)
                  clear hK K
                  try simp only [Act.put, List.getElem_toArray, List.getElem_cons_succ, List.getElem_cons_zero, List.setIfInBounds_toArray, List.set_cons_zero, List.set_cons_succ]
                  refine wpAnyH_ready (rs := [5]) (by kernel_rfl) (by simp) ?_
                  refine AllReadyH.cons rfl (fun K hK => ?_) AllReadyH.nil
                  go_simp
                  refine (CF1.out _).mono ?_
                  rintro e w7 ⟨rfl, rfl⟩
                  first | (refine hK.out _ _ ?_ (fun hHeld => ?_)) | (go_wp2_with fail; refine hK.out _ _ ?_ (fun hHeld => ?_))
                  · (go_keep; try omega)
                  clear hK K
                  try simp only [Act.put, List.getElem_toArray, List.getElem_cons_succ, List.getElem_cons_zero, List.setIfInBounds_toArray, List.set_cons_zero, List.set_cons_succ]
                  refine wpAnyH_ready (rs := [8]) (by kernel_rfl) (by simp) ?_
                  refine AllReadyH.cons rfl (fun K hK => ?_) AllReadyH.nil
                  go_simp
                  refine (CF0.out _).mono ?_
                  rintro e w7 ⟨rfl, rfl⟩
                  first | (refine hK.out _ _ ?_ (fun hHeld => ?_)) | (go_wp2_with fail; refine hK.out _ _ ?_ (fun hHeld => ?_))
                  · (go_keep; try omega)
                  clear hK K
                  try simp only [Act.put, List.getElem_toArray, List.getElem_cons_succ, List.getElem_cons_zero, List.setIfInBounds_toArray, List.set_cons_zero, List.set_cons_succ]
                  refine wpAnyH_take (i := 9) (v := ?_) rfl (by kernel_rfl) (by kernel_rfl) (by kernel_rfl) (fun _ _ _ h => h) (Or.inl ⟨by rfl, ?_⟩) (by assumption) ?_
                  rotate_left
                  · intro w hSw
                    (try dsimp only at hSw)
                    go_simp
                    first | done | with_reducible rfl
                  simp only [Act.put, List.getElem_toArray, List.getElem_cons_succ, List.getElem_cons_zero, List.setIfInBounds_toArray, List.set_cons_zero, List.set_cons_succ]
                  refine wpAnyH_take (i := 10) (v := ?_) rfl (by kernel_rfl) (by kernel_rfl) (by kernel_rfl) (fun _ _ _ h => h) (Or.inl ⟨by rfl, ?_⟩) (by assumption) ?_
                  rotate_left
                  · intro w hSw
                    (try dsimp only at hSw)
                    go_simp
                    first | done | with_reducible rfl
                  simp only [Act.put, List.getElem_toArray, List.getElem_cons_succ, List.getElem_cons_zero, List.setIfInBounds_toArray, List.set_cons_zero, List.set_cons_succ]
                  refine wpAnyH_take (i := 11) (v := ?_) rfl (by kernel_rfl) (by kernel_rfl) (by kernel_rfl) (fun _ _ _ h => h) (Or.inl ⟨by rfl, ?_⟩) (by assumption) ?_
                  rotate_left
                  · intro w hSw
                    (try dsimp only at hSw)
                    go_simp
                    first | done | with_reducible rfl
                  simp only [Act.put, List.getElem_toArray, List.getElem_cons_succ, List.getElem_cons_zero, List.setIfInBounds_toArray, List.set_cons_zero, List.set_cons_succ]
                  refine wpAnyH_ready (rs := [12]) (by kernel_rfl) (by simp) ?_
                  refine AllReadyH.cons rfl (fun K hK => ?_) AllReadyH.nil
                  go_simp
                  first | (refine hK.out _ _ ?_ (fun hHeld => ?_)) | (go_wp2_with fail; refine hK.out _ _ ?_ (fun hHeld => ?_))
                  · (go_keep; try omega)
                  clear hK K
                  try simp only [Act.put, List.getElem_toArray, List.getElem_cons_succ, List.getElem_cons_zero, List.setIfInBounds_toArray, List.set_cons_zero, List.set_cons_succ]
                  refine wpAnyH_done (by kernel_rfl) ?_ _
                  refine NoPanic.normal ?_
                  go_wp2_with fail
                  refine Met.intro ?_
                  go_step
                  (repeat (first | apply ey64 | apply ey16 | apply ey4 | apply Exists.intro))
                  refine ⟨?_, rfl⟩
                  exact HQ2.out.drew.set rfl rfl
                · go_simp
                  refine (CF1.out _).mono ?_
                  rintro e w7 ⟨rfl, rfl⟩
                  first | (refine hK.out _ _ ?_ (fun hHeld => ?_)) | (go_wp2_with fail; refine hK.out _ _ ?_ (fun hHeld => ?_))
                  · (go_keep; try omega)
                  clear hK K
                  try simp only [Act.put, List.getElem_toArray, List.getElem_cons_succ, List.getElem_cons_zero, List.setIfInBounds_toArray, List.set_cons_zero, List.set_cons_succ]
                  refine wpAnyH_ready (rs := [1, 8]) (by kernel_rfl) (by simp) ?_
                  refine AllReadyH.cons rfl (fun K hK => ?_) (AllReadyH.cons rfl (fun K hK => ?_) AllReadyH.nil)
                  · go_simp
                    first | (refine hK.out _ _ ?_ (fun hHeld => ?_)) | (go_wp2_with fail; refine hK.out _ _ ?_ (fun hHeld => ?_))
                    · (go_keep; try omega)
                    clear hK K
                    try simp only [Act.put, List.getElem_toArray, List.getElem_cons_succ, List.getElem_cons_zero, List.setIfInBounds_toArray, List.set_cons_zero, List.set_cons_succ]
                    refine wpAnyH_ready (rs := [8]) (by kernel_rfl) (by simp) ?_
                    refine AllReadyH.cons rfl (fun K hK => ?_) AllReadyH.nil
                    go_simp
                    refine (CF0.out _).mono ?_
                    rintro e w7 ⟨rfl, rfl⟩
                    first | (refine hK.out _ _ ?_ (fun hHeld => ?_)) | (go_wp2_with fail; refine hK.out _ _ ?_ (fun hHeld => ?_))
                    · (go_keep; try omega)
                    clear hK K
                    try simp only [Act.put, List.getElem_toArray, List.getElem_cons_succ, List.getElem_cons_zero, List.setIfInBounds_toArray, List.set_cons_zero, List.set_cons_succ]
                    refine wpAnyH_take (i := 9) (v := ?_) rfl (by kernel_rfl) (by kernel_rfl) (by kernel_rfl) (fun _ _ _ h => h) (Or.inl ⟨by rfl, ?_⟩) (by assumption) ?_
                    rotate_left
                    · intro w hSw
                      (try dsimp only at hSw)
                      go_simp
                      first | done | with_reducible rfl
                    simp only [Act.put, List.getElem_toArray, List.getElem_cons_succ, List.getElem_cons_zero, List.setIfInBounds_toArray, List.set_cons_zero, List.set_cons_succ]
                    refine wpAnyH_take (i := 10) (v := ?_) rfl (by kernel_rfl) (by kernel_rfl) (by kernel_rfl) (fun _ _ _ h => h) (Or.inl ⟨by rfl, ?_⟩) (by assumption) ?_
                    rotate_left
                    · intro w hSw
                      (try dsimp only at hSw)
                      go_simp
                      first | done | with_reducible rfl
                    simp only [Act.put, List.getElem_toArray, List.getElem_cons_succ, List.getElem_cons_zero, List.setIfInBounds_toArray, List.set_cons_zero, List.set_cons_succ]
                    refine wpAnyH_take (i := 11) (v := ?_) rfl (by kernel_rfl) (by kernel_rfl) (by kernel_rfl) (fun _ _ _ h => h) (Or.inl ⟨by rfl, ?_⟩) (by assumption) ?_
                    rotate_left
                    · intro w hSw
                      (try dsimp only at hSw)
                      go_simp
                      first | done | with_reducible rfl
                    simp only [Act.put, List.getElem_toArray, List.getElem_cons_succ, List.getElem_cons_zero, List.setIfInBounds_toArray, List.set_cons_zero, List.set_cons_succ]
                    refine wpAnyH_ready (rs := [12]) (by kernel_rfl) (by simp) ?_
                    refine AllReadyH.cons rfl (fun K hK => ?_) AllReadyH.nil
                    go_simp
                    first | (refine hK.out _ _ ?_ (fun hHeld => ?_)) | (go_wp2_with fail; refine hK.out _ _ ?_ (fun hHeld => ?_))
                    · (go_keep; try omega)
                    clear hK K
                    try simp only [Act.put, List.getElem_toArray, List.getElem_cons_succ, List.getElem_cons_zero, List.setIfInBounds_toArray, List.set_cons_zero, List.set_cons_succ]
                    refine wpAnyH_done (by kernel_rfl) ?_ _
                    refine NoPanic.normal ?_
                    go_wp2_with fail
                    refine Met.intro ?_
                    go_step
                    (repeat (first | apply ey64 | apply ey16 | apply ey4 | apply Exists.intro))
                    refine ⟨?_, rfl⟩
                    exact HQ2.out.drew.set rfl rfl
                  · go_simp
                    refine (CF0.out _).mono ?_
                    rintro e w7 ⟨rfl, rfl⟩
                    first | (refine hK.out _ _ ?_ (fun hHeld => ?_)) | (go_wp2_with fail; refine hK.out _ _ ?_ (fun hHeld => ?_))
                    · (go_keep; try omega)
                    clear hK K
                    try simp only [Act.put, List.getElem_toArray, List.getElem_cons_succ, List.getElem_cons_zero, List.setIfInBounds_toArray, List.set_cons_zero, List.set_cons_succ]
                    refine wpAnyH_take (i := 9) (v := ?_) rfl (by kernel_rfl) (by kernel_rfl) (by kernel_rfl) (fun _ _ _ h => h) (Or.inl ⟨by rfl, ?_⟩) (by assumption) ?_
                    rotate_left
                    · intro w hSw
                      (try dsimp only at hSw)
                      go_simp
                      first | done | with_reducible rfl
                    simp only [Act.put, List.getElem_toArray, List.getElem_cons_succ, List.getElem_cons_zero, List.setIfInBounds_toArray, List.set_cons_zero, List.set_cons_succ]
                    refine wpAnyH_ready (rs := [1]) (by kernel_rfl) (by simp) ?_
                    refine AllReadyH.cons rfl (fun K hK => ?_) AllReadyH.nil
                    go_simp
                    first | (refine hK.out _ _ ?_ (fun hHeld => ?_)) | (go_wp2_with fail; refine hK.out _ _ ?_ (fun hHeld => ?_))
                    · (go_keep; try omega)
                    clear hK K
                    try simp only [Act.put, List.getElem_toArray, List.getElem_cons_succ, List.getElem_cons_zero, List.setIfInBounds_toArray, List.set_cons_zero, List.set_cons_succ]
                    refine wpAnyH_take (i := 10) (v := ?_) rfl (by kernel_rfl) (by kernel_rfl) (by kernel_rfl) (fun _ _ _ h => h) (Or.inl ⟨by rfl, ?_⟩) (by assumption) ?_
                    rotate_left
                    · intro w hSw
                      (try dsimp only at hSw)
                      go_simp
                      first | done | with_reducible rfl
                    simp only [Act.put, List.getElem_toArray, List.getElem_cons_succ, List.getElem_cons_zero, List.setIfInBounds_toArray, List.set_cons_zero, List.set_cons_succ]
                    refine wpAnyH_take (i := 11) (v := ?_) rfl (by kernel_rfl) (by kernel_rfl) (by kernel_rfl) (fun _ _ _ h => h) (Or.inl ⟨by rfl, ?_⟩) (by assumption) ?_
                    rotate_left
                    · intro w hSw
                      (try dsimp only at hSw)
                      go_simp
                      first | done | with_reducible rfl
                    simp only [Act.put, List.getElem_toArray, List.getElem_cons_succ, List.getElem_cons_zero, List.setIfInBounds_toArray, List.set_cons_zero, List.set_cons_succ]
                    refine wpAnyH_ready (rs := [12]) (by kernel_rfl) (by simp) ?_
                    refine AllReadyH.cons rfl (fun K hK => ?_) AllReadyH.nil
                    go_simp
                    first | (refine hK.out _ _ ?_ (fun hHeld => ?_)) | (go_wp2_with fail; refine hK.out _ _ ?_ (fun hHeld => ?_))
                    · (go_keep; try omega)
                    clear hK K
                    try simp only [Act.put, List.getElem_toArray, List.getElem_cons_succ, List.getElem_cons_zero, List.setIfInBounds_toArray, List.set_cons_zero, List.set_cons_succ]
                    refine wpAnyH_done (by kernel_rfl) ?_ _
                    refine NoPanic.normal ?_
                    go_wp2_with fail
                    refine Met.intro ?_
                    go_step
                    (repeat (first | apply ey64 | apply ey16 | apply ey4 | apply Exists.intro))
                    refine ⟨?_, rfl⟩
                    exact HQ2.out.drew.set rfl rfl
                -- >19
              case rest =>
                have HQ4 := Lib.hid hcut
                clear hcut HQ2 x7 h7 q4 z2 xz hw1 hwr hor CF1 CF0
                obtain ⟨m, hm⟩ : ∃ m, m = ln + 1 := ⟨_, rfl⟩
                obtain ⟨us, k1, k2, k3⟩ := id HQ4.out.pa
                dsimp only at k1 k2 k3
                have HM := Lib.hid hm
                have hpl : xp1.length = m := by rw [HLEN.out (by simp), hm]
                rw [hpl] at k1 k2
                obtain ⟨A', c', hfe, hfe2⟩ := id k2
                injection hfe with e1 e2 e3
                subst e1 e2 e3
                clear hfe2
                have hxm : xn < n7 := by omega
                have HPL := Lib.hid hpl
                have HONE := Lib.hid (show ∀ u ∈ us, u.oneCell' = true from fun u hu => by
                  obtain ⟨i, hi, rfl⟩ := List.getElem_of_mem hu
                  obtain ⟨A'', c'', hf, _⟩ := k3 i us[i] xp1[i] (List.getElem?_eq_getElem hi) (List.getElem?_eq_getElem (by omega))
                  rw [hf]; rfl)
                have hlt4 : ∀ b, PQ w w3 bm wc b → b < wc.heap.size := fun b hb => hb.lt HQ4.out.lt.2 HQ4.out.be.size
                have HSL := Lib.hid (k2.weak hlt4)
                have HK1 := Lib.hid k1
                have HK2 := Lib.hid k2
                have HK3 := Lib.hid k3
                have HLT4 := Lib.hid hlt4
                have x6 := HQ4.out.bx.box.cell (j := 6) rfl
                have h6 := HQ4.out.bx.box.free 6
                have xz := HQ4.out.bx.box.lt
                (try dsimp only at x6)
                have hn7 : n7 ≤ 32 := by have := HM.out; omega
                clear k1 k2 k3 hlt4 hpl hm
                go_upto_region 21 with (first
                  | (at_builtin
                     refine app_sl _ elP rfl (.tmp 131) (.tmp 133) rfl rfl (own_nil wc _ 1) rfl (HSL.out.on (al1 _ _)) ?_ ?_ ?_ ?_
                     · exact HONE.out
                     · omega
                     · simp
                     intro v9 w9 hown9 hg9 hnil9 hat9
                     rw [Nat.zero_add, List.nil_append] at hown9
                     have HB9 := Lib.hid (show Below wc.heap.size wc w9 from below_app (al1 _ _) (own_nil wc _ 1) hg9 (Nat.le_refl _) (by simp))
                     obtain ⟨g, c9, rfl⟩ : ∃ g c9, v9 = .slice (some ⟨g, 0, none⟩) n7 c9 := by
                       rcases hown9.2 with ⟨_, h0⟩ | ⟨g, cap, cur, h1, _⟩
                       · omega
                       · exact ⟨g, cap, h1⟩
                     have HO9 := Lib.hid hown9
                     have y6 := (HQ4.out.bx.box.on HB9.out).cell (j := 6) rfl
                     have f6 := (HQ4.out.bx.box.on HB9.out).free 6
                     have y6z := (HQ4.out.bx.box.on HB9.out).lt
                     clear hown9 hg9 hnil9 hat9 x6 h6 xz)
                  | fail)
                obtain ⟨Wc, hWc⟩ : ∃ Wc, Wc = w9.setCell ⟨bm, 6, none⟩ (.slice (some ⟨g, 0, none⟩) n7 c9) := ⟨_, rfl⟩
                have hbg : wc.heap.size ≤ g ∧ g < w9.heap.size := ⟨(HO9.out.lt g rfl).1, (HO9.out.lt g rfl).2⟩
                have hbmc : bm < wc.heap.size := HQ4.out.bx.box.lt
                have HRC := Lib.hid (show Wc.ownsRow wc.heap.size 23 1 (.slice (some ⟨g, 0, none⟩) n7 c9) n7 us by rw [hWc]; exact own_far HO9.out hbmc 6 _)
                have HXC := Lib.hid (show BT Wc bm 95 (inCs ⟨xs1, xd1, ap, xz1, xi1, (ln : Int), xp1, b2, xdu1, ttl, false⟩ (.slice (some ⟨g, 0, none⟩) n7 c9)) by rw [hWc]; exact (HQ4.out.bx.on HB9.out).set 6 _)
                have HBC := Lib.hid (show Below w3.heap.size w3 Wc by rw [hWc]; exact (bthen HQ4.out.be HB9.out).setCell (p := ⟨bm, 6, none⟩) HQ4.out.lt.1 _)
                have HZC := Lib.hid (show Wc.heap.size = w9.heap.size by rw [hWc]; simp)
                have HEC := Lib.hid (show ∀ (j : Nat) v p, us[j]? = some v → xp1[j]? = some p → BSP Wc (PQ w w3 bm wc) v p from fun j v p hv hp => by
                  refine SlP.keep (HK3.out j v p hv hp) fun b o hb => ?_
                  have h1 := HLT4.out b hb
                  have hne : b ≠ bm := by
                    rcases hb with hb | hb
                    · have := HQ4.out.lt; omega
                    · exact hb.2.1
                  rw [hWc]
                  unfold World.cell?
                  rw [heap_setCell_other _ ⟨bm, 6, none⟩ b _ (show b ≠ bm from hne), HB9.out.block b h1])
                rw [← hWc]
                clear hWc y6 f6 y6z
                have x6 := HXC.out.box.cell (j := 6) rfl
                have xz := HXC.out.box.lt
                have q4 := (K2.out.on HBC.out).cell (j := 4) rfl
                have q9 := (K2.out.on HBC.out).cell (j := 9) rfl
                have z2 := (K2.out.on HBC.out).lt
                (try dsimp only at x6)
                have hxm' : (xn : Int) < (n7 : Int) := by omega
                have hx0 : (0 : Int) ≤ (xn : Int) := by omega
                have HSW := Lib.hid (fun W' (hW' : Below Wc.heap.size Wc W') => HBV.out.on (HB3.out.trans ((bthen HBC.out hW').mono HB3.out.size)))
                have hgb : bm ≠ g := by omega
                have hgl : w.heap.size + 1 + 1 ≠ g := by have := HQ4.out.be.size; have := KZ.out; omega
                have hgb' := Ne.symm hgb
                have hgl' := Ne.symm hgl
                go_upto_region 21 with fail
                -- <21
                refine wp_region_noPanic ?_
                refine wp_region_held_drew (S := fun w' => w'.cell? ⟨bm, 6, none⟩ = some (.slice (some ⟨g, 0, none⟩) n7 c9) ∧ w'.cell? ⟨w.heap.size + 1 + 1, 4, none⟩ = some (.int .i64 (xn : Int)) ∧ w'.cell? ⟨w.heap.size + 1 + 1, 9, none⟩ = some (.slice A n c)) (by kernel_rfl) (by (go_keep; try omega)) (fun hHeld => ?_)
                refine wpAnyH_take (i := 0) (v := ?_) rfl (by kernel_rfl) (by kernel_rfl) (by kernel_rfl) (fun _ _ _ h => h) (Or.inl ⟨by rfl, ?_⟩) (by assumption) ?_
                rotate_left
                · intro w hSw
                  (try dsimp only at hSw)
                  go_simp
                  first | done | with_reducible rfl
                simp only [Act.put, List.getElem_toArray, List.getElem_cons_zero, List.setIfInBounds_toArray, List.set_cons_zero, List.set_cons_succ]
                refine wpAnyH_take (i := 1) (v := ?_) rfl (by kernel_rfl) (by kernel_rfl) (by kernel_rfl) (fun _ _ _ h => h) (Or.inl ⟨by rfl, ?_⟩) (by assumption) ?_
                rotate_left
                · intro w hSw
                  (try dsimp only at hSw)
                  go_simp
                  first | done | with_reducible rfl
                simp only [Act.put, List.getElem_toArray, List.getElem_cons_succ, List.getElem_cons_zero, List.setIfInBounds_toArray, List.set_cons_zero, List.set_cons_succ]
                refine wpAnyH_take (i := 2) (v := ?_) rfl (by kernel_rfl) (by kernel_rfl) (by kernel_rfl) (fun _ _ _ h => h) (Or.inl ⟨by rfl, ?_⟩) (by assumption) ?_
                rotate_left
                · intro w hSw
                  (try dsimp only at hSw)
                  go_simp
                  first | done | with_reducible rfl
                simp only [Act.put, List.getElem_toArray, List.getElem_cons_succ, List.getElem_cons_zero, List.setIfInBounds_toArray, List.set_cons_zero, List.set_cons_succ]
                refine wpAnyH_take (i := 3) (v := ?_) rfl (by kernel_rfl) (by kernel_rfl) (by kernel_rfl) (fun _ _ _ h => h) (Or.inl ⟨by rfl, ?_⟩) (by assumption) ?_
                rotate_left
                · intro w hSw
                  (try dsimp only at hSw)
                  go_simp
                  first | done | with_reducible rfl
                simp only [Act.put, List.getElem_toArray, List.getElem_cons_succ, List.getElem_cons_zero, List.setIfInBounds_toArray, List.set_cons_zero, List.set_cons_succ]
                refine wpAnyH_take (i := 5) (v := ?_) rfl (by kernel_rfl) (by kernel_rfl) (by kernel_rfl) (fun _ _ _ h => h) (Or.inl ⟨by rfl, ?_⟩) (by assumption) ?_
                rotate_left
                · intro w hSw
                  (try dsimp only at hSw)
                  go_simp
                  first | done | with_reducible rfl
                simp only [Act.put, List.getElem_toArray, List.getElem_cons_succ, List.getElem_cons_zero, List.setIfInBounds_toArray, List.set_cons_zero, List.set_cons_succ]
                refine wpAnyH_take (i := 6) (v := ?_) rfl (by kernel_rfl) (by kernel_rfl) (by kernel_rfl) (fun _ _ _ h => h) (Or.inl ⟨by rfl, ?_⟩) (by assumption) ?_
                rotate_left
                · intro w hSw
                  (try dsimp only at hSw)
                  go_simp
                  first | done | with_reducible rfl
                simp only [Act.put, List.getElem_toArray, List.getElem_cons_succ, List.getElem_cons_zero, List.setIfInBounds_toArray, List.set_cons_zero, List.set_cons_succ]
                refine wpAnyH_ready (rs := [4]) (by kernel_rfl) (by simp) ?_
                refine AllReadyH.cons rfl (fun K hK => ?_) AllReadyH.nil
                go_simp
                first | (refine hK.out _ _ ?_ (fun hHeld => ?_)) | (go_wp2_with fail; refine hK.out _ _ ?_ (fun hHeld => ?_))
                · (go_keep; try omega)
                clear hK K
                try simp only [Act.put, List.getElem_toArray, List.getElem_cons_succ, List.getElem_cons_zero, List.setIfInBounds_toArray, List.set_cons_zero, List.set_cons_succ]
                refine wpAnyH_ready (rs := [7]) (by kernel_rfl) (by simp) ?_
                refine AllReadyH.cons rfl (fun K hK => ?_) AllReadyH.nil
                refine step_by _ elB rfl (.tmp 140) (.tmp 142) rfl rfl (OB.nil _) rfl (HSW.out _ (((Below.refl _ _).drew).alloc (Nat.le_refl _) _)) ?_ ?_ ?_
                · rw [Hn.out]; simp; omega
                · simp
                intro v8 w8 hown8 hb8
                rw [List.nil_append] at hown8
                have hb10 : Below Wc.heap.size Wc w8 := (((Below.refl _ Wc).drew).alloc (Nat.le_refl _) _).trans hb8
                have HB10 := Lib.hid hb10
                have y6 := (HXC.out.box.on hb10).cell (j := 6) rfl
                have yz := (HXC.out.box.on hb10).lt
                have y4 := ((K2.out.on HBC.out).on hb10).cell (j := 4) rfl
                have y9 := ((K2.out.on HBC.out).on hb10).cell (j := 9) rfl
                have yz2 := ((K2.out.on HBC.out).on hb10).lt
                have hrow8 := own_on HRC.out hb10
                have fz := hrow8.frozenAt xn
                have gz : g < w8.heap.size := (hrow8.lt g rfl).2
                obtain ⟨uz, cz⟩ : ∃ uz, w8.cell? ⟨g, xn, none⟩ = some uz := ⟨_, (hrow8.cellAt xn (by have := HK1.out; omega)).trans (List.getElem?_eq_getElem (by have := HK1.out; omega))⟩
                have HR8 := Lib.hid hrow8
                obtain ⟨A8, c8, rfl⟩ := own_slice hown8
                have HO8 := Lib.hid hown8
                clear hown8 hb8 hb10 hrow8
                (try dsimp only at y6)
                refine hK.out _ _ ⟨y6, y4, y9⟩ (fun hHeld => ?_)
                clear hK K
                simp only [Act.put, List.getElem_toArray, List.getElem_cons_succ, List.getElem_cons_zero, List.setIfInBounds_toArray, List.set_cons_zero, List.set_cons_succ]
                refine wpAnyH_take (i := 8) (v := ?_) rfl (by kernel_rfl) (by kernel_rfl) (by kernel_rfl) (fun _ _ _ h => h) (Or.inl ⟨by rfl, ?_⟩) (by assumption) ?_
                rotate_left
                · intro w hSw
                  (try dsimp only at hSw)
                  go_simp
                  first | done | with_reducible rfl
                simp only [Act.put, List.getElem_toArray, List.getElem_cons_succ, List.getElem_cons_zero, List.setIfInBounds_toArray, List.set_cons_zero, List.set_cons_succ]
                refine wpAnyH_ready (rs := [9]) (by kernel_rfl) (by simp) ?_
                refine AllReadyH.cons rfl (fun K hK => ?_) AllReadyH.nil
                go_simp
                first | (refine hK.out _ _ ?_ (fun hHeld => ?_)) | (go_wp2_with fail; refine hK.out _ _ ?_ (fun hHeld => ?_))
                · (go_keep; try omega)
                clear hK K
                try simp only [Act.put, List.getElem_toArray, List.getElem_cons_succ, List.getElem_cons_zero, List.setIfInBounds_toArray, List.set_cons_zero, List.set_cons_succ]
                refine wpAnyH_done (by kernel_rfl) ?_ _
                refine NoPanic.normal ?_
                go_wp2_with fail
                refine Met.intro ?_
                go_step
                (repeat (first | apply ey64 | apply ey16 | apply ey4 | apply Exists.intro))
                refine ⟨?_, rfl⟩
                exact ⟨.slice (some ⟨g, 0, none⟩) n7 c9, QSt.placed (y := ⟨xs1, xd1, ap, xz1, xi1, (ln : Int), xp1, b2, xdu1, ttl, false⟩) HQ4.out HB9.out HBC.out HZC.out HXC.out HEC.out HR8.out HB10.out hbg HO8.out HPL.out HK1.out hxm (by rw [putIn_yes HM0.out, HB2.out])⟩
                -- >21
            · go_wp2_with fail
              refine Met.intro ?_
              go_step
              (repeat (first | apply ey64 | apply ey16 | apply ey4 | apply Exists.intro))
              refine ⟨?_, rfl⟩
              refine ⟨.slice A7 n7 c7, ?_⟩
              rw [putIn_no (show ¬ xb1 / 2 ^ xn % 2 = 0 from by have h : xb1 / 2 ^ xn % 2 = 1 := of_decide_eq_true HHS.out.symm; omega)]
              exact HQ2.out
          case rest =>
            obtain ⟨vm, hP⟩ := hcut
            obtain ⟨xb2, xp2, hput, hlen2⟩ := putIn_keep (⟨xs1, xd1, ap, xz1, xi1, (ln : Int), xp1, xb1, xdu1, xt1, false⟩ : InS) xn bl ttl
            rw [hput] at hP
            dsimp only at hP
            obtain ⟨np, hnp⟩ : ∃ np, np = xp2.length := ⟨_, rfl⟩
            obtain ⟨A6, c6, rfl⟩ : ∃ A c, vm = .slice A np c := by
              rw [hnp]
              obtain ⟨_, _, ⟨A, c, h, _⟩, _⟩ := id hP.pa
              exact ⟨A, c, h⟩
            have HNP := Lib.hid hnp.symm
            clear hnp
            have HPV := Lib.hid (hP.pa.weak fun b hb => hb.lt hP.lt.2 hP.be.size)
            have HP := Lib.hid hP
            have HPUT := Lib.hid hput
            have r7 := HP.out.bx.box.cell (j := 7) rfl
            have r5 := HP.out.bx.box.cell (j := 5) rfl
            have xz := HP.out.bx.box.lt
            dsimp only at r7 r5
            have hln31 : ln ≤ 31 := by omega
            have hb2l : xb2 < 2 ^ (ln + 1) := by
              have h := putIn_blk (bl := bl) (ttl := ttl) (k := xn) (x := (⟨xs1, xd1, ap, xz1, xi1, (ln : Int), xp1, xb1, xdu1, xt1, false⟩ : InS)) HBLK.out (show xn < ln + 1 by omega)
              rw [hput] at h
              exact h
            have HSM2 := Lib.hid (show ∀ p ∈ xp2, p.length ≤ 65536 from by
              have h := putIn_small (bl := bl) (ttl := ttl) (k := xn) (x := (⟨xs1, xd1, ap, xz1, xi1, (ln : Int), xp1, xb1, xdu1, xt1, false⟩ : InS)) HSM.out (by rw [Hn.out]; exact HBL.out)
              rw [hput] at h
              exact h)
            have HL2 := Lib.hid (show xp2.length ≤ 32 from Nat.le_trans (Nat.le_of_eq hlen2) HP32.out)
            have h32p : 2 ^ (ln + 1) ≤ 4294967296 := Nat.pow_le_pow_right (n := 2) (by omega) (show ln + 1 ≤ 32 by omega)
            have hand := u32_and_nat xb2 (full (ln + 1)) (Nat.lt_of_lt_of_le hb2l h32p) (full_le (by omega))
            rw [full_and hb2l] at hand
            have CFU := Lib.hid (fun W => rfull_any (ln + 1) (by omega) W)
            obtain ⟨f2, hf2⟩ : ∃ f2, f2 = full (ln + 1) := ⟨_, rfl⟩
            rw [← hf2] at hand CFU
            have HF2 := Lib.hid hf2
            have hMI : MI = (endIn (⟨xs1, xd1, ap, xz1, xi1, (ln : Int), xp2, xb2, xdu1, ttl, false⟩ : InS) nd now).1 := HMI.out.trans (by rw [midIn_no rfl, hput])
            have hG : G = if (endIn (⟨xs1, xd1, ap, xz1, xi1, (ln : Int), xp2, xb2, xdu1, ttl, false⟩ : InS) nd now).2 = true then [((⟨src, dst, ap, ttl, src, iv, zz⟩ : AccS), xp2.flatten)] else [] := HG.out.trans (by unfold gotIn; rw [midIn_no rfl, hput])
            have q5 := (K2.out.on HP.out.be).cell (j := 5) rfl
            have z2 := (K2.out.on HP.out.be).lt
            have hw : IntKind.i64.wrap ((ln : Int) + 1) = ((ln + 1 : Nat) : Int) := by rw [IntWalk.i64_in _ (by omega)]; push_cast; rfl
            obtain ⟨l1, hl1⟩ : ∃ l1, l1 = ln + 1 := ⟨_, rfl⟩
            rw [← hl1] at hw CFU
            clear hP hput hlen2 x9 x7 h9 q4 x10 CH hf2 h32p hb2l HBLK HSM HP32 HLEN HMI HG HHS HQ2 hl1
            by_cases hfl : xb2 = f2
            · have hfl' : xb2 = full ((ln : Int) + 1).toNat := by rw [hfl, HF2.out]; congr 1
              rw [endIn_full (y := (⟨xs1, xd1, ap, xz1, xi1, (ln : Int), xp2, xb2, xdu1, ttl, false⟩ : InS)) hfl'] at hMI hG
              rw [if_pos rfl] at hG
              dsimp only at hMI
              have HMI := Lib.hid hMI
              have HG := Lib.hid hG
              clear hMI hG hfl'
              subst hfl
              clear HF2
              -- <B1
              go_upto_region 22 with fail
              refine wp_region_noPanic ?_
              refine wp_region_held_drew (S := fun w' => w'.cell? ⟨bm, 7, none⟩ = some (.int .u32 (xb2 : Int)) ∧ w'.cell? ⟨w.heap.size + 1 + 1, 5, none⟩ = some (.int .i64 (ln : Int))) (by kernel_rfl) (by (go_keep; try omega)) (fun hHeld => ?_)
              refine wpAnyH_take (i := 0) (v := ?_) rfl (by kernel_rfl) (by kernel_rfl) (by kernel_rfl) (fun _ _ _ h => h) (Or.inl ⟨by rfl, ?_⟩) (by assumption) ?_
              rotate_left
              · intro w hSw
                (try dsimp only at hSw)
                go_simp
                first | done | with_reducible rfl
              simp only [Act.put, List.getElem_toArray, List.getElem_cons_zero, List.setIfInBounds_toArray, List.set_cons_zero, List.set_cons_succ]
              refine wpAnyH_take (i := 1) (v := ?_) rfl (by kernel_rfl) (by kernel_rfl) (by kernel_rfl) (fun _ _ _ h => h) (Or.inl ⟨by rfl, ?_⟩) (by assumption) ?_
              rotate_left
              · intro w hSw
                (try dsimp only at hSw)
                go_simp
                first | done | with_reducible rfl
              simp only [Act.put, List.getElem_toArray, List.getElem_cons_succ, List.getElem_cons_zero, List.setIfInBounds_toArray, List.set_cons_zero, List.set_cons_succ]
              refine wpAnyH_take (i := 2) (v := ?_) rfl (by kernel_rfl) (by kernel_rfl) (by kernel_rfl) (fun _ _ _ h => h) (Or.inl ⟨by rfl, ?_⟩) (by assumption) ?_
              rotate_left
              · intro w hSw
                (try dsimp only at hSw)
                go_simp
                first | done | with_reducible rfl
              simp only [Act.put, List.getElem_toArray, List.getElem_cons_succ, List.getElem_cons_zero, List.setIfInBounds_toArray, List.set_cons_zero, List.set_cons_succ]
              refine wpAnyH_take (i := 3) (v := ?_) rfl (by kernel_rfl) (by kernel_rfl) (by kernel_rfl) (fun _ _ _ h => h) (Or.inl ⟨by rfl, ?_⟩) (by assumption) ?_
              rotate_left
              · intro w hSw
                (try dsimp only at hSw)
                go_simp
                first | done | with_reducible rfl
              simp only [Act.put, List.getElem_toArray, List.getElem_cons_succ, List.getElem_cons_zero, List.setIfInBounds_toArray, List.set_cons_zero, List.set_cons_succ]
              refine wpAnyH_take (i := 4) (v := ?_) rfl (by kernel_rfl) (by kernel_rfl) (by kernel_rfl) (fun _ _ _ h => h) (Or.inl ⟨by rfl, ?_⟩) (by assumption) ?_
              rotate_left
              · intro w hSw
                (try dsimp only at hSw)
                go_simp
                first | done | with_reducible rfl
              simp only [Act.put, List.getElem_toArray, List.getElem_cons_succ, List.getElem_cons_zero, List.setIfInBounds_toArray, List.set_cons_zero, List.set_cons_succ]
              refine wpAnyH_take (i := 7) (v := ?_) rfl (by kernel_rfl) (by kernel_rfl) (by kernel_rfl) (fun _ _ _ h => h) (Or.inl ⟨by rfl, ?_⟩) (by assumption) ?_
              rotate_left
              · intro w hSw
                (try dsimp only at hSw)
                go_simp
                first | done | with_reducible rfl
              simp only [Act.put, List.getElem_toArray, List.getElem_cons_succ, List.getElem_cons_zero, List.setIfInBounds_toArray, List.set_cons_zero, List.set_cons_succ]
              refine wpAnyH_take (i := 8) (v := ?_) rfl (by kernel_rfl) (by kernel_rfl) (by kernel_rfl) (fun _ _ _ h => h) (Or.inl ⟨by rfl, ?_⟩) (by assumption) ?_
              rotate_left
              · intro w hSw
                (try dsimp only at hSw)
                go_simp
                first | done | with_reducible rfl
              simp only [Act.put, List.getElem_toArray, List.getElem_cons_succ, List.getElem_cons_zero, List.setIfInBounds_toArray, List.set_cons_zero, List.set_cons_succ]
              refine wpAnyH_take (i := 9) (v := ?_) rfl (by kernel_rfl) (by kernel_rfl) (by kernel_rfl) (fun _ _ _ h => h) (Or.inl ⟨by rfl, ?_⟩) (by assumption) ?_
              rotate_left
              · intro w hSw
                (try dsimp only at hSw)
                go_simp
                first | done | with_reducible rfl
              simp only [Act.put, List.getElem_toArray, List.getElem_cons_succ, List.getElem_cons_zero, List.setIfInBounds_toArray, List.set_cons_zero, List.set_cons_succ]
              refine wpAnyH_ready (rs := [5]) (by kernel_rfl) (by simp) ?_
              refine AllReadyH.cons rfl (fun K hK => ?_) AllReadyH.nil
              go_simp
              refine (CFU.out _).mono ?_
              rintro e w7 ⟨rfl, rfl⟩
              first | (refine hK.out _ _ ?_ (fun hHeld => ?_)) | (go_wp2_with fail; refine hK.out _ _ ?_ (fun hHeld => ?_))
              · (go_keep; try omega)
              clear hK K
              try simp only [Act.put, List.getElem_toArray, List.getElem_cons_succ, List.getElem_cons_zero, List.setIfInBounds_toArray, List.set_cons_zero, List.set_cons_succ]
              refine wpAnyH_take (i := 6) (v := ?_) rfl (by kernel_rfl) (by kernel_rfl) (by kernel_rfl) (fun _ _ _ h => h) (Or.inl ⟨by rfl, ?_⟩) (by assumption) ?_
              rotate_left
              · intro w hSw
                (try dsimp only at hSw)
                go_simp
                first | done | with_reducible rfl
              simp only [Act.put, List.getElem_toArray, List.getElem_cons_succ, List.getElem_cons_zero, List.setIfInBounds_toArray, List.set_cons_zero, List.set_cons_succ]
              refine wpAnyH_ready (rs := [10]) (by kernel_rfl) (by simp) ?_
              refine AllReadyH.cons rfl (fun K hK => ?_) AllReadyH.nil
              go_simp
              refine (CFU.out _).mono ?_
              rintro e w7 ⟨rfl, rfl⟩
              first | (refine hK.out _ _ ?_ (fun hHeld => ?_)) | (go_wp2_with fail; refine hK.out _ _ ?_ (fun hHeld => ?_))
              · (go_keep; try omega)
              clear hK K
              try simp only [Act.put, List.getElem_toArray, List.getElem_cons_succ, List.getElem_cons_zero, List.setIfInBounds_toArray, List.set_cons_zero, List.set_cons_succ]
              refine wpAnyH_take (i := 11) (v := ?_) rfl (by kernel_rfl) (by kernel_rfl) (by kernel_rfl) (fun _ _ _ h => h) (Or.inl ⟨by rfl, ?_⟩) (by assumption) ?_
              rotate_left
              · intro w hSw
                (try dsimp only at hSw)
                go_simp
                first | done | with_reducible rfl
              simp only [Act.put, List.getElem_toArray, List.getElem_cons_succ, List.getElem_cons_zero, List.setIfInBounds_toArray, List.set_cons_zero, List.set_cons_succ]
              refine wpAnyH_done (by kernel_rfl) ?_ _
              refine NoPanic.normal ?_
              have q2 := (K2.out.on HP.out.be).cell (j := 2) rfl
              have s1 := (K1.out.on HP.out.be).cell (j := 1) rfl
              have zs1 := (K1.out.on HP.out.be).lt
              go_upto_region 24 with fail
              obtain ⟨W8, hW8⟩ : ∃ W8, W8 = (wc.alloc (.cells #[.int .u16 (src : Int), .int .u16 (dst : Int), .bool ap, .int .i64 ttl, .int .u16 (src : Int), .int .u32 (iv : Int), .int .u32 (zz : Int), .slice none 0 0] 43)).drew := ⟨_, rfl⟩
              have HX8 := Lib.hid (show Box W8 wc.heap.size (accCs ⟨src, dst, ap, ttl, src, iv, zz⟩ (.slice none 0 0)) by rw [hW8]; exact (Box.new wc _ _).drew)
              have HB8 := Lib.hid (show Below wc.heap.size wc W8 by rw [hW8]; exact ((Below.refl _ _).alloc (Nat.le_refl _) _).drew)
              rw [← hW8]
              clear hW8 r7 r5 q5 z2 q2 s1 zs1 xz hw hand
              go_wp2_with fail
              go_loopw [23] (fun i wr => ∃ (k : Nat) (v : Value), k ≤ np ∧ i = .int .i64 (k : Int) ∧ Box wr wc.heap.size (accCs ⟨src, dst, ap, ttl, src, iv, zz⟩ v) ∧ OB wr (wc.heap.size + 1) v (xp2.take k).flatten ∧ Below wc.heap.size wc wr) (fun i _ => np - (intOf i).toNat)
              case atStart => exact ⟨0, .slice none 0 0, Nat.zero_le _, rfl, HX8.out, World.ownsRow_nil _ _ _ _, HB8.out⟩
              clear HX8 HB8
              case round =>
                obtain ⟨k, v, hk, rfl, hbx, hown, hbel⟩ := hrel
                obtain ⟨fl, hfl⟩ : ∃ fl, fl = (xp2.take k).flatten := ⟨_, rfl⟩
                rw [← hfl] at hown
                have HFLT := Lib.hid hfl
                clear hfl
                obtain ⟨A9, c9, rfl⟩ := own_slice hown
                obtain ⟨nf, hnf⟩ : ∃ nf, nf = fl.length := ⟨_, rfl⟩
                rw [← hnf] at hbx hown
                have HNF := Lib.hid hnf
                clear hnf
                have HBX := Lib.hid hbx
                have HBE := Lib.hid hbel
                have HOW := Lib.hid hown
                have x6 := (HP.out.bx.box.on hbel).cell (j := 6) rfl
                have xz := (HP.out.bx.box.on hbel).lt
                have xlt : bm < wc.heap.size := HP.out.bx.box.lt
                have bne : bm ≠ wc.heap.size := by omega
                have bne' := Ne.symm bne
                have a7 := hbx.cell (j := 7) rfl
                have f7 := hbx.free 7
                have za := hbx.lt
                (try dsimp only at x6 a7)
                clear hbx hown hbel xlt
                by_cases hr0 : k < np
                · have hr0' : (k : Int) < (np : Int) := by omega
                  have hk0 : (0 : Int) ≤ (k : Int) := by omega
                  have hnp32 : np ≤ 32 := by have h1 := HL2.out; rw [HNP.out] at h1; exact h1
                  have hkl : k < xp2.length := by rw [HNP.out]; exact hr0
                  have hek := List.getElem?_eq_getElem hkl
                  have HTK := Lib.hid (flatten_take_succ hkl)
                  have HSMk := Lib.hid (HSM2.out _ (List.getElem_mem hkl))
                  obtain ⟨b1, o1, x1, A1', c1', hf1, hB1, d0, sp⟩ := part_cell (HPV.out.below HBE.out) hek
                  injection hf1 with hf1 hf2 hf3
                  subst hf1 hf3
                  clear hf2
                  generalize xp2[k] = p at *
                  have HSP := Lib.hid (sp.more HBE.out.size)
                  have HFB := Lib.hid (show fl.length + p.length ≤ 140737488355328 by
                    have h1 := flatten_small (xp2.take k) fun q hq => HSM2.out q (List.mem_of_mem_take hq)
                    rw [← HFLT.out, List.length_take] at h1
                    have h2 := HL2.out
                    have h3 := HSMk.out
                    omega)
                  obtain ⟨pl, hpl⟩ : ∃ pl, pl = p.length := ⟨_, rfl⟩
                  rw [← hpl] at d0
                  have HSP := Lib.hid (show BS wr wr.heap.size (.slice A1' pl c1') p by rw [hpl]; exact HSP.out)
                  have hz1 : b1 < wr.heap.size := Nat.lt_of_lt_of_le hB1 HBE.out.size
                  have hn1 : b1 ≠ wc.heap.size := by omega
                  have hn1' := Ne.symm hn1
                  have xlt : bm < wc.heap.size := HP.out.bx.box.lt
                  clear hpl hkl hek sp
                  go_upto_region 27 with fail
                  refine wp_region_noPanic ?_
                  refine wp_region_held_drew (S := fun w' => w'.cell? ⟨bm, 6, none⟩ = some (.slice (some ⟨b1, o1, none⟩) np c6) ∧ w'.cell? ⟨b1, o1 + k, none⟩ = some (.slice A1' pl c1')) (by kernel_rfl) (by (go_keep; try omega)) (fun hHeld => ?_)
                  refine wpAnyH_take (i := 0) (v := ?_) rfl (by kernel_rfl) (by kernel_rfl) (by kernel_rfl) (fun _ _ _ h => h) (Or.inl ⟨by rfl, ?_⟩) (by assumption) ?_
                  rotate_left
                  · intro w hSw
                    (try dsimp only at hSw)
                    go_simp
                    first | done | with_reducible rfl
                  simp only [Act.put, List.getElem_toArray, List.getElem_cons_zero, List.setIfInBounds_toArray, List.set_cons_zero, List.set_cons_succ]
                  refine wpAnyH_take (i := 2) (v := ?_) rfl (by kernel_rfl) (by kernel_rfl) (by kernel_rfl) (fun _ _ _ h => h) (Or.inl ⟨by rfl, ?_⟩) (by assumption) ?_
                  rotate_left
                  · intro w hSw
                    (try dsimp only at hSw)
                    go_simp
                    first | done | with_reducible rfl
                  simp only [Act.put, List.getElem_toArray, List.getElem_cons_succ, List.getElem_cons_zero, List.setIfInBounds_toArray, List.set_cons_zero, List.set_cons_succ]
                  refine wpAnyH_take (i := 3) (v := ?_) rfl (by kernel_rfl) (by kernel_rfl) (by kernel_rfl) (fun _ _ _ h => h) (Or.inl ⟨by rfl, ?_⟩) (by assumption) ?_
                  rotate_left
                  · intro w hSw
                    (try dsimp only at hSw)
                    go_simp
                    first | done | with_reducible rfl
                  simp only [Act.put, List.getElem_toArray, List.getElem_cons_succ, List.getElem_cons_zero, List.setIfInBounds_toArray, List.set_cons_zero, List.set_cons_succ]
                  refine wpAnyH_take (i := 4) (v := ?_) rfl (by kernel_rfl) (by kernel_rfl) (by kernel_rfl) (fun _ _ _ h => h) (Or.inl ⟨by rfl, ?_⟩) (by assumption) ?_
                  rotate_left
                  · intro w hSw
                    (try dsimp only at hSw)
                    go_simp
                    first | done | with_reducible rfl
                  simp only [Act.put, List.getElem_toArray, List.getElem_cons_succ, List.getElem_cons_zero, List.setIfInBounds_toArray, List.set_cons_zero, List.set_cons_succ]
                  refine wpAnyH_take (i := 5) (v := ?_) rfl (by kernel_rfl) (by kernel_rfl) (by kernel_rfl) (fun _ _ _ h => h) (Or.inl ⟨by rfl, ?_⟩) (by assumption) ?_
                  rotate_left
                  · intro w hSw
                    (try dsimp only at hSw)
                    go_simp
                    first | done | with_reducible rfl
                  simp only [Act.put, List.getElem_toArray, List.getElem_cons_succ, List.getElem_cons_zero, List.setIfInBounds_toArray, List.set_cons_zero, List.set_cons_succ]
                  refine wpAnyH_take (i := 6) (v := ?_) rfl (by kernel_rfl) (by kernel_rfl) (by kernel_rfl) (fun _ _ _ h => h) (Or.inl ⟨by rfl, ?_⟩) (by assumption) ?_
                  rotate_left
                  · intro w hSw
                    (try dsimp only at hSw)
                    go_simp
                    first | done | with_reducible rfl
                  simp only [Act.put, List.getElem_toArray, List.getElem_cons_succ, List.getElem_cons_zero, List.setIfInBounds_toArray, List.set_cons_zero, List.set_cons_succ]
                  refine wpAnyH_ready (rs := [1]) (by kernel_rfl) (by simp) ?_
                  refine AllReadyH.cons rfl (fun K hK => ?_) AllReadyH.nil
                  go_simp
                  first | (refine hK.out _ _ ?_ (fun hHeld => ?_)) | (go_wp2_with fail; refine hK.out _ _ ?_ (fun hHeld => ?_))
                  · (go_keep; try omega)
                  clear hK K
                  try simp only [Act.put, List.getElem_toArray, List.getElem_cons_succ, List.getElem_cons_zero, List.setIfInBounds_toArray, List.set_cons_zero, List.set_cons_succ]
                  refine wpAnyH_ready (rs := [7]) (by kernel_rfl) (by simp) ?_
                  refine AllReadyH.cons rfl (fun K hK => ?_) AllReadyH.nil
                  refine step_by _ elB rfl (.tmp 176) (.tmp 181) rfl rfl (own_on HOW.out (al_drew _)) rfl (HSP.out.on (al_drew _)) ?_ ?_ ?_
                  · exact HFB.out
                  · exact Nat.succ_le_of_lt za
                  intro v8 w8 hown8 hb8
                  have hb10 : Below (wc.heap.size + 1) wr w8 := ((Below.refl _ wr).drew).trans hb8
                  have HB10 := Lib.hid hb10
                  have y6 := ((HP.out.bx.box.on HBE.out).keep hb10 (Nat.lt_succ_of_lt xlt)).cell (j := 6) rfl
                  have yz := ((HP.out.bx.box.on HBE.out).keep hb10 (Nat.lt_succ_of_lt xlt)).lt
                  have y1 : w8.cell? ⟨b1, o1 + k, none⟩ = some (.slice A1' pl c1') := (hb10.cell (p := ⟨b1, o1 + k, none⟩) (by show b1 < _; omega)).trans d0
                  have g7 := (HBX.out.keep hb10 (Nat.lt_succ_self _)).cell (j := 7) rfl
                  have gf := (HBX.out.keep hb10 (Nat.lt_succ_self _)).free 7
                  have gz := (HBX.out.keep hb10 (Nat.lt_succ_self _)).lt
                  (try dsimp only at y6 g7)
                  obtain ⟨n8, hn8⟩ : ∃ n8, n8 = (fl ++ p).length := ⟨_, rfl⟩
                  obtain ⟨A8, c8, rfl⟩ := own_slice hown8
                  have HO8 := Lib.hid hown8
                  have HN8 := Lib.hid hn8
                  rw [← hn8]
                  clear hown8 hb8 hb10 hn8
                  refine hK.out _ _ ⟨y6, y1⟩ (fun hHeld => ?_)
                  clear hK K
                  simp only [Act.put, List.getElem_toArray, List.getElem_cons_succ, List.getElem_cons_zero, List.setIfInBounds_toArray, List.set_cons_zero, List.set_cons_succ]
                  refine wpAnyH_take (i := 8) (v := ?_) rfl (by kernel_rfl) (by kernel_rfl) (by kernel_rfl) (fun _ _ _ h => h) (Or.inl ⟨by rfl, ?_⟩) (by assumption) ?_
                  rotate_left
                  · intro w hSw
                    (try dsimp only at hSw)
                    go_simp
                    first | done | with_reducible rfl
                  simp only [Act.put, List.getElem_toArray, List.getElem_cons_succ, List.getElem_cons_zero, List.setIfInBounds_toArray, List.set_cons_zero, List.set_cons_succ]
                  refine wpAnyH_ready (rs := [9]) (by kernel_rfl) (by simp) ?_
                  refine AllReadyH.cons rfl (fun K hK => ?_) AllReadyH.nil
                  go_simp
                  first | (refine hK.out _ _ ?_ (fun hHeld => ?_)) | (go_wp2_with fail; refine hK.out _ _ ?_ (fun hHeld => ?_))
                  · (go_keep; try omega)
                  clear hK K
                  try simp only [Act.put, List.getElem_toArray, List.getElem_cons_succ, List.getElem_cons_zero, List.setIfInBounds_toArray, List.set_cons_zero, List.set_cons_succ]
                  refine wpAnyH_done (by kernel_rfl) ?_ _
                  refine NoPanic.normal ?_
                  go_wp2_with fail
                  go_roundw
                  case rel =>
                    refine ⟨k + 1, .slice A8 n8 c8, by omega, by go_num, (HBX.out.keep HB10.out (Nat.lt_succ_self _)).set 7 _, ?_, (HBE.out.trans (HB10.out.mono (Nat.le_succ _))).setCell (p := ⟨wc.heap.size, 7, none⟩) (Nat.le_refl _) _⟩
                    rw [HTK.out, ← HFLT.out]
                    have h := own_far HO8.out (Nat.lt_succ_self wc.heap.size) 7 (.slice A8 n8 c8)
                    rw [← HN8.out] at h
                    unfold OB
                    rw [← HN8.out]
                    exact h
                  case measure => simp [intOf]; omega
                · have hke : k = np := by omega
                  subst hke
                  have hfl2 : fl = xp2.flatten := by rw [HFLT.out, List.take_of_length_le (Nat.le_of_eq HNP.out)]
                  have HFL2 := Lib.hid hfl2
                  have a0 := HBX.out.cell (j := 0) rfl
                  have a1 := HBX.out.cell (j := 1) rfl
                  have a2 := HBX.out.cell (j := 2) rfl
                  have a3 := HBX.out.cell (j := 3) rfl
                  have a4 := HBX.out.cell (j := 4) rfl
                  have a5 := HBX.out.cell (j := 5) rfl
                  have a6 := HBX.out.cell (j := 6) rfl
                  (try dsimp only at a0 a1 a2 a3 a4 a5 a6)
                  have x10 := (HP.out.bx.box.on HBE.out).cell (j := 10) rfl
                  have h10 := (HP.out.bx.box.on HBE.out).free 10
                  have h6 := (HP.out.bx.box.on HBE.out).free 6
                  (try dsimp only at x10)
                  clear hfl2
                  go_wp2_with fail
                  refine Met.intro ?_
                  go_step
                  (repeat (first | apply ey64 | apply ey16 | apply ey4 | apply Exists.intro))
                  refine ⟨?_, rfl⟩
                  refine ⟨.slice none 0 0, ?_, ?_⟩
                  · rw [HG.out]
                    obtain ⟨W10, hW10⟩ : ∃ W10, W10 = (wr.setCell ⟨bm, 10, none⟩ (.bool true)).setCell ⟨bm, 6, none⟩ (.slice none 0 0) := ⟨_, rfl⟩
                    have hs : W10.heap.size = wr.heap.size := by rw [hW10]; simp
                    have hbmw : bm < wc.heap.size := HP.out.bx.box.lt
                    have ho : OB W10 (wc.heap.size + 1) (.slice A9 xp2.flatten.length c9) xp2.flatten := by
                      have h := HOW.out
                      rw [HNF.out, HFL2.out] at h
                      rw [hW10]
                      exact own_far (own_far h (Nat.lt_succ_of_lt hbmw) 10 _) (Nat.lt_succ_of_lt hbmw) 6 _
                    have hza : wc.heap.size + 1 ≤ wr.heap.size := Nat.succ_le_of_lt HBX.out.lt
                    have h3w := HP.out.be.size
                    have h := (accs_own ⟨src, dst, ap, ttl, src, iv, zz⟩ xp2.flatten A9 c9 ho (by rw [hs]; exact hza)).upto (Nat.le_refl _)
                    rw [← hW10, show nf = xp2.flatten.length by rw [HNF.out, HFL2.out], ← hs]
                    exact h.toP fun b h1 h2 => .inr ⟨by omega, by omega, h2⟩
                  · rw [HMI.out]
                    exact (((HP.out.on HBE.out).set (j := 10) (u := .bool true) (x' := ⟨xs1, xd1, ap, xz1, xi1, (ln : Int), xp2, xb2, xdu1, ttl, true⟩) rfl rfl).store (j := 6) (vm' := .slice none 0 0) (x' := ⟨xs1, xd1, ap, xz1, xi1, (ln : Int), [], xb2, xdu1, ttl, true⟩) rfl (partsP_nil _ _)).on (al1 _ _)
              -- >B1
            · have hfl' : ¬ xb2 = full ((ln : Int) + 1).toNat := by rw [show ((ln : Int) + 1).toNat = ln + 1 by omega, ← HF2.out]; exact hfl
              have hne : ¬ ((xb2 : Int) = (f2 : Int)) := by omega
              have HMI := Lib.hid hMI
              have HG := Lib.hid hG
              have HFL := Lib.hid hfl'
              clear hMI hG hfl' hfl
              -- <B2
              go_upto_region 22 with fail
              refine wp_region_noPanic ?_
              refine wp_region_held_drew (S := fun w' => w'.cell? ⟨bm, 7, none⟩ = some (.int .u32 (xb2 : Int)) ∧ w'.cell? ⟨w.heap.size + 1 + 1, 5, none⟩ = some (.int .i64 (ln : Int))) (by kernel_rfl) (by (go_keep; try omega)) (fun hHeld => ?_)
              refine wpAnyH_take (i := 0) (v := ?_) rfl (by kernel_rfl) (by kernel_rfl) (by kernel_rfl) (fun _ _ _ h => h) (Or.inl ⟨by rfl, ?_⟩) (by assumption) ?_
              rotate_left
              · intro w hSw
                (try dsimp only at hSw)
                go_simp
                first | done | with_reducible rfl
              simp only [Act.put, List.getElem_toArray, List.getElem_cons_zero, List.setIfInBounds_toArray, List.set_cons_zero, List.set_cons_succ]
              refine wpAnyH_take (i := 1) (v := ?_) rfl (by kernel_rfl) (by kernel_rfl) (by kernel_rfl) (fun _ _ _ h => h) (Or.inl ⟨by rfl, ?_⟩) (by assumption) ?_
              rotate_left
              · intro w hSw
                (try dsimp only at hSw)
                go_simp
                first | done | with_reducible rfl
              simp only [Act.put, List.getElem_toArray, List.getElem_cons_succ, List.getElem_cons_zero, List.setIfInBounds_toArray, List.set_cons_zero, List.set_cons_succ]
              refine wpAnyH_take (i := 2) (v := ?_) rfl (by kernel_rfl) (by kernel_rfl) (by kernel_rfl) (fun _ _ _ h => h) (Or.inl ⟨by rfl, ?_⟩) (by assumption) ?_
              rotate_left
              · intro w hSw
                (try dsimp only at hSw)
                go_simp
                first | done | with_reducible rfl
              simp only [Act.put, List.getElem_toArray, List.getElem_cons_succ, List.getElem_cons_zero, List.setIfInBounds_toArray, List.set_cons_zero, List.set_cons_succ]
              refine wpAnyH_take (i := 3) (v := ?_) rfl (by kernel_rfl) (by kernel_rfl) (by kernel_rfl) (fun _ _ _ h => h) (Or.inl ⟨by rfl, ?_⟩) (by assumption) ?_
              rotate_left
              · intro w hSw
                (try dsimp only at hSw)
                go_simp
                first | done | with_reducible rfl
              simp only [Act.put, List.getElem_toArray, List.getElem_cons_succ, List.getElem_cons_zero, List.setIfInBounds_toArray, List.set_cons_zero, List.set_cons_succ]
              refine wpAnyH_take (i := 4) (v := ?_) rfl (by kernel_rfl) (by kernel_rfl) (by kernel_rfl) (fun _ _ _ h => h) (Or.inl ⟨by rfl, ?_⟩) (by assumption) ?_
              rotate_left
              · intro w hSw
                (try dsimp only at hSw)
                go_simp
                first | done | with_reducible rfl
              simp only [Act.put, List.getElem_toArray, List.getElem_cons_succ, List.getElem_cons_zero, List.setIfInBounds_toArray, List.set_cons_zero, List.set_cons_succ]
              refine wpAnyH_take (i := 7) (v := ?_) rfl (by kernel_rfl) (by kernel_rfl) (by kernel_rfl) (fun _ _ _ h => h) (Or.inl ⟨by rfl, ?_⟩) (by assumption) ?_
              rotate_left
              · intro w hSw
                (try dsimp only at hSw)
                go_simp
                first | done | with_reducible rfl
              simp only [Act.put, List.getElem_toArray, List.getElem_cons_succ, List.getElem_cons_zero, List.setIfInBounds_toArray, List.set_cons_zero, List.set_cons_succ]
              refine wpAnyH_take (i := 8) (v := ?_) rfl (by kernel_rfl) (by kernel_rfl) (by kernel_rfl) (fun _ _ _ h => h) (Or.inl ⟨by rfl, ?_⟩) (by assumption) ?_
              rotate_left
              · intro w hSw
                (try dsimp only at hSw)
                go_simp
                first | done | with_reducible rfl
              simp only [Act.put, List.getElem_toArray, List.getElem_cons_succ, List.getElem_cons_zero, List.setIfInBounds_toArray, List.set_cons_zero, List.set_cons_succ]
              refine wpAnyH_take (i := 9) (v := ?_) rfl (by kernel_rfl) (by kernel_rfl) (by kernel_rfl) (fun _ _ _ h => h) (Or.inl ⟨by rfl, ?_⟩) (by assumption) ?_
              rotate_left
              · intro w hSw
                (try dsimp only at hSw)
                go_simp
                first | done | with_reducible rfl
              simp only [Act.put, List.getElem_toArray, List.getElem_cons_succ, List.getElem_cons_zero, List.setIfInBounds_toArray, List.set_cons_zero, List.set_cons_succ]
              refine wpAnyH_ready (rs := [5]) (by kernel_rfl) (by simp) ?_
              refine AllReadyH.cons rfl (fun K hK => ?_) AllReadyH.nil
              go_simp
              refine (CFU.out _).mono ?_
              rintro e w7 ⟨rfl, rfl⟩
              first | (refine hK.out _ _ ?_ (fun hHeld => ?_)) | (go_wp2_with fail; refine hK.out _ _ ?_ (fun hHeld => ?_))
              · (go_keep; try omega)
              clear hK K
              try simp only [Act.put, List.getElem_toArray, List.getElem_cons_succ, List.getElem_cons_zero, List.setIfInBounds_toArray, List.set_cons_zero, List.set_cons_succ]
              refine wpAnyH_take (i := 6) (v := ?_) rfl (by kernel_rfl) (by kernel_rfl) (by kernel_rfl) (fun _ _ _ h => h) (Or.inl ⟨by rfl, ?_⟩) (by assumption) ?_
              rotate_left
              · intro w hSw
                (try dsimp only at hSw)
                go_simp
                first | done | with_reducible rfl
              simp only [Act.put, List.getElem_toArray, List.getElem_cons_succ, List.getElem_cons_zero, List.setIfInBounds_toArray, List.set_cons_zero, List.set_cons_succ]
              refine wpAnyH_ready (rs := [10]) (by kernel_rfl) (by simp) ?_
              refine AllReadyH.cons rfl (fun K hK => ?_) AllReadyH.nil
              go_simp
              refine (CFU.out _).mono ?_
              rintro e w7 ⟨rfl, rfl⟩
              first | (refine hK.out _ _ ?_ (fun hHeld => ?_)) | (go_wp2_with fail; refine hK.out _ _ ?_ (fun hHeld => ?_))
              · (go_keep; try omega)
              clear hK K
              try simp only [Act.put, List.getElem_toArray, List.getElem_cons_succ, List.getElem_cons_zero, List.setIfInBounds_toArray, List.set_cons_zero, List.set_cons_succ]
              refine wpAnyH_take (i := 11) (v := ?_) rfl (by kernel_rfl) (by kernel_rfl) (by kernel_rfl) (fun _ _ _ h => h) (Or.inl ⟨by rfl, ?_⟩) (by assumption) ?_
              rotate_left
              · intro w hSw
                (try dsimp only at hSw)
                go_simp
                first | done | with_reducible rfl
              simp only [Act.put, List.getElem_toArray, List.getElem_cons_succ, List.getElem_cons_zero, List.setIfInBounds_toArray, List.set_cons_zero, List.set_cons_succ]
              refine wpAnyH_done (by kernel_rfl) ?_ _
              refine NoPanic.normal ?_
              have r8 := HP.out.bx.box.cell (j := 8) rfl
              have h8 := HP.out.bx.box.free 8
              have hz8 : bm < wc.drew.heap.size := xz
              (try dsimp only at r8)
              rcases nd with _ | _
              · go_wp2_with (first | (go_at_call 61; refine (CN.out _).mono ?_; rintro e w7 ⟨rfl, rfl⟩) | fail)
                refine Met.intro ?_
                go_step
                (repeat (first | apply ey64 | apply ey16 | apply ey4 | apply Exists.intro))
                refine ⟨?_, rfl⟩
                refine ⟨.slice A6 np c6, ?_, ?_⟩
                · rw [HG.out, endIn_not HFL.out (by simp), if_neg (by simp)]
                  exact manyP_nil _ _
                · rw [HMI.out, endIn_not HFL.out (by simp)]
                  exact HP.out.drew
              · by_cases hd : xdu1 = 0
                · subst hd
                  go_wp2_with (first | (go_at_call 61; refine (CN.out _).mono ?_; rintro e w7 ⟨rfl, rfl⟩) | fail)
                  refine Met.intro ?_
                  go_step
                  (repeat (first | apply ey64 | apply ey16 | apply ey4 | apply Exists.intro))
                  refine ⟨?_, rfl⟩
                  refine ⟨.slice A6 np c6, ?_, ?_⟩
                  · rw [HG.out, endIn_due HFL.out ⟨rfl, rfl⟩, if_neg (by simp)]
                    exact manyP_nil _ _
                  · rw [HMI.out, endIn_due HFL.out ⟨rfl, rfl⟩]
                    exact (HP.out.set (j := 8) (u := .int .i64 (now + 10)) (x' := ⟨xs1, xd1, ap, xz1, xi1, (ln : Int), xp2, xb2, now + 10, ttl, false⟩) rfl rfl).drew
                · have HD := Lib.hid hd
                  go_wp2_with (first | (go_at_call 61; refine (CN.out _).mono ?_; rintro e w7 ⟨rfl, rfl⟩) | fail)
                  refine Met.intro ?_
                  go_step
                  (repeat (first | apply ey64 | apply ey16 | apply ey4 | apply Exists.intro))
                  refine ⟨?_, rfl⟩
                  refine ⟨.slice A6 np c6, ?_, ?_⟩
                  · rw [HG.out, endIn_not HFL.out (fun h => HD.out h.2), if_neg (by simp)]
                    exact manyP_nil _ _
                  · rw [HMI.out, endIn_not HFL.out (fun h => HD.out h.2)]
                    exact HP.out.drew
              -- >B2
        · go_wp2_with fail
          refine Met.intro ?_
          go_step
          (repeat (first | apply ey64 | apply ey16 | apply ey4 | apply Exists.intro))
          refine ⟨?_, rfl⟩
          refine ⟨.slice A7 n7 c7, ?_, ?_⟩
          · rw [show G = [] from HG.out.trans (gotIn_fin rfl)]
            exact manyP_nil _ _
          · rw [show MI = _ from HMI.out.trans (midIn_fin rfl)]
            exact HQ1.out
      case rest =>
        obtain ⟨vm, hG2, hQ2⟩ := hcut
        obtain ⟨y0, y1, y2, y3, y4, y5, y6, y7, y8, y9, yf⟩ := MI
        obtain ⟨A8, n8, c8, rfl⟩ : ∃ A n c, vm = .slice A n c := by
          obtain ⟨_, _, ⟨A, c, h, _⟩, _⟩ := id hQ2.pa
          exact ⟨A, _, c, h⟩
        obtain ⟨A9, c9, rfl⟩ := hG2.form
        generalize hgl : G.length = gl at *
        have x10 := hQ2.bx.box.cell (j := 10) rfl
        have xz := hQ2.bx.box.lt
        dsimp only at x10
        have HQ2 := Lib.hid hQ2
        have HG2 := Lib.hid hG2
        clear hQ2 hG2 HG HMI HQ1 HLEN HBLK HSM HP32
        obtain ⟨wo, rfl⟩ : ∃ wo : World, wo = wc := ⟨_, rfl⟩
        obtain ⟨ak, hak⟩ : ∃ ak, ak = (yf && nd) := ⟨_, rfl⟩
        have HAK := Lib.hid hak
        clear hak
        go_upto_region 33 with fail
        go_cut [24] (fun t wx => t = .bool ak ∧ wx = wo)
        case first =>
          rcases yf with _ | _
          · go_wp2_with fail
            refine Met.intro ?_
            go_step
            (repeat (first | apply ey64 | apply ey16 | apply ey4 | apply Exists.intro))
            refine ⟨?_, rfl⟩
            exact ⟨by rw [HAK.out]; rfl, rfl⟩
          · go_wp2_with (first | (go_at_call 61; refine (CN.out _).mono ?_; rintro e w7 ⟨rfl, rfl⟩) | fail)
            refine Met.intro ?_
            go_step
            (repeat (first | apply ey64 | apply ey16 | apply ey4 | apply Exists.intro))
            refine ⟨?_, rfl⟩
            exact ⟨by rw [HAK.out]; simp, rfl⟩
        case rest =>
          obtain ⟨rfl, rfl⟩ := hcut
          obtain ⟨YI, hYI⟩ : ∃ YI, YI = ackIn (⟨y0, y1, y2, y3, y4, y5, y6, y7, y8, y9, yf⟩ : InS) nd now := ⟨_, rfl⟩
          rw [← hYI] at HR
          have HYI := Lib.hid hYI
          clear hYI x10 xz
          go_upto_if 204 with fail
          go_cut [] (fun wx => QSt YI w w3 wx bm (.slice A8 n8 c8) ∧ ManyP accF 8 (fun a => a.2) wx (PQ w w3 bm wx) (.slice A9 gl c9) G)
          case first =>
            have x8 := HQ2.out.bx.box.cell (j := 8) rfl
            have h8 := HQ2.out.bx.box.free 8
            have xz := HQ2.out.bx.box.lt
            have hmx : (if 1 < now then now else 1) = max now 1 := by split <;> omega
            dsimp only at x8
            rcases ak with _ | _
            · have hyn := HAK.out
              have hYF : YI = ⟨y0, y1, y2, y3, y4, y5, y6, y7, y8, y9, yf⟩ := by
                rw [HYI.out]
                refine if_neg fun h => ?_
                obtain ⟨h1, h2⟩ := h
                dsimp only at h1
                rw [h1, h2] at hyn
                cases hyn
              clear hyn
              go_wp2_with fail
              refine Met.intro ?_
              go_step
              (repeat (first | apply ey64 | apply ey16 | apply ey4 | apply Exists.intro))
              refine ⟨?_, rfl⟩
              rw [hYF]
              exact ⟨HQ2.out, HG2.out⟩
            · have hyn := HAK.out
              have hYF : YI = ⟨y0, y1, y2, y3, y4, y5, y6, y7, max now 1, y9, yf⟩ := by
                rw [HYI.out]
                refine if_pos ?_
                have h1 := hyn.symm
                rw [Bool.and_eq_true] at h1
                exact h1
              clear hyn
              go_wp2_with fail
              refine Met.intro ?_
              go_step
              (repeat (first | apply ey64 | apply ey16 | apply ey4 | apply Exists.intro))
              refine ⟨?_, rfl⟩
              rw [hYF]
              exact ⟨HQ2.out.set rfl rfl, many_setX HG2.out HQ2.out.lt 8 _⟩
          case rest =>
            obtain ⟨hQ3, hG3⟩ := hcut
            obtain ⟨v0, v1, v2, v3, v4, v5, v6, v7, v8, v9, vf⟩ := YI
            have HQ3 := Lib.hid hQ3
            have HG3 := Lib.hid hG3
            clear hQ3 hG3 HQ2 HG2 CN
            have hbw : Below w.heap.size w wc := HB3.out.trans (HQ3.out.be.mono HB3.out.size)
            have CM := Lib.hid (rmove_any (PQ w w3 bm wc) is fo ⟨v0, v1, v2, v3, v4, v5, v6, v7, v8, v9, vf⟩ (.slice A2 M c2) (.slice A8 n8 c8) wc (fun b hb => hb.lt HQ3.out.lt.2 HQ3.out.be.size) (((rowV_P HU.out).keep fun b _ hb => hbw.cell (p := ⟨b, _, none⟩) hb).imp fun _ h => .inl h) HQ3.out.pa (by rw [HM.out]; exact HL8.out))
            unfold MvPost inV at CM
            have HBW := Lib.hid hbw
            clear hbw
            have x0 := HQ3.out.bx.box.cell (j := 0) rfl
            have x1 := HQ3.out.bx.box.cell (j := 1) rfl
            have x2 := HQ3.out.bx.box.cell (j := 2) rfl
            have x3 := HQ3.out.bx.box.cell (j := 3) rfl
            have x4 := HQ3.out.bx.box.cell (j := 4) rfl
            have x5 := HQ3.out.bx.box.cell (j := 5) rfl
            have x6 := HQ3.out.bx.box.cell (j := 6) rfl
            have x7 := HQ3.out.bx.box.cell (j := 7) rfl
            have x8 := HQ3.out.bx.box.cell (j := 8) rfl
            have x9 := HQ3.out.bx.box.cell (j := 9) rfl
            have x10 := HQ3.out.bx.box.cell (j := 10) rfl
            have xz := HQ3.out.bx.box.lt
            have p1 := (K0.out.on HQ3.out.be).cell (j := 1) rfl
            have z0 := (K0.out.on HQ3.out.be).lt
            dsimp only at x0 x1 x2 x3 x4 x5 x7 x8 x9 x10
            go_wp2_with fail
            refine CM.out.mono ?_
            rintro e w8 ⟨hb8, u8, rfl, hu8⟩
            obtain ⟨Au, cu, rfl⟩ := hu8.form
            generalize (keep8 (dropO fo is ++ [(⟨v0, v1, v2, v3, v4, v5, v6, v7, v8, v9, vf⟩ : InS)])) = KL at *
            generalize KL.length = kl at *
            have HU8 := Lib.hid hu8
            have HB8 := Lib.hid hb8
            have HB38 := Lib.hid (HQ3.out.be.trans (hb8.mono HQ3.out.be.size))
            have HW8 := Lib.hid (HB3.out.trans (HB38.out.mono HB3.out.size))
            have HG8 := Lib.hid ((HG3.out.keep fun b _ hb => hb8.cell (p := ⟨b, _, none⟩) (hb.lt HQ3.out.lt.2 HQ3.out.be.size)).imp (fun b hb => hb.on (w3 := w3) hb8.size))
            have hqlt := HQ3.out.lt
            clear hu8 hb8 x0 x1 x2 x3 x4 x5 x6 x7 x8 x9 x10 xz p1 z0
            have p0 := (K0.out.on HB38.out).cell (j := 0) rfl
            have p1 := (K0.out.on HB38.out).cell (j := 1) rfl
            have t1 := (K0.out.on HB38.out).free 1
            have z0 := (K0.out.on HB38.out).lt
            have e0 := (K3.out.on HB38.out).cell (j := 0) rfl
            have e1 := (K3.out.on HB38.out).cell (j := 1) rfl
            have f0 := (K3.out.on HB38.out).free 0
            have f1 := (K3.out.on HB38.out).free 1
            have z3 := (K3.out.on HB38.out).lt
            have na : w.heap.size ≠ w.heap.size + 1 + 1 + 1 := by omega
            have nab := Ne.symm na
            go_wp2_with fail
            obtain ⟨Z, hZ⟩ : ∃ Z, Z = (w8.setCell ⟨w.heap.size, 1, none⟩ (.slice Au kl cu)).setCells (w.heap.size + 1 + 1 + 1) 0 [.slice A1 N c1, .slice Au kl cu] := ⟨_, rfl⟩
            have hZB : Below w.heap.size w Z := by rw [hZ]; exact below_puts (b := w.heap.size + 1 + 1 + 1) (by omega) 0 _ (HW8.out.setCell (p := ⟨w.heap.size, 1, none⟩) (Nat.le_refl _) _)
            have hZR : Box Z (w.heap.size + 1 + 1 + 1) [.slice A1 N c1, .slice Au kl cu] := by rw [hZ]; exact ((K3.out.on HB38.out).far (p := ⟨w.heap.size, 1, none⟩) nab _).put _ rfl
            have hsz3 := HQ3.out.be.size
            have hZU : RowP inCs 11 InS.parts Z (NewB (PQ w w3 bm wc) wc w8) (.slice Au kl cu) KL := by
              rw [hZ]
              exact rowP_far (rowP_far (rowP_far HU8.out (fun b hb => by rcases hb with (hb | hb) | hb <;> omega) 1 _) (fun b hb => by rcases hb with (hb | hb) | hb <;> omega) 0 _) (fun b hb => by rcases hb with (hb | hb) | hb <;> omega) 1 _
            have hZG : ManyP accF 8 (fun a => a.2) Z (PQ w w3 bm w8) (.slice A9 gl c9) G := by
              rw [hZ]
              exact manyP_far (manyP_far (manyP_far HG8.out (fun b hb => by rcases hb with hb | hb <;> omega) 1 _) (fun b hb => by rcases hb with hb | hb <;> omega) 0 _) (fun b hb => by rcases hb with hb | hb <;> omega) 1 _
            have hZs : Z.heap.size = w8.heap.size := by rw [hZ, size_puts]; simp
            have hs8 := HB8.out.size
            rw [show ((w8.setCell ⟨w.heap.size, 1, none⟩ (.slice Au kl cu)).setCell ⟨w.heap.size + 1 + 1 + 1, 0, none⟩ (.slice A1 N c1)).setCell ⟨w.heap.size + 1 + 1 + 1, 1, none⟩ (.slice Au kl cu) = Z from hZ.symm]
            clear hZ
            refine bodyPost_ret (res_tr3 rfl _ _ (w.heap.size + 1 + 1 + 1) (.slice A1 N c1) (.slice Au kl cu) rfl hZR) rfl (HQ.out _ _ _ _ _ (by rw [HR.out, ← HAK.out]; rfl) hZB (HV.out.on hZB) ?_ ?_)
            · rw [HR.out]
              refine hZU.weak fun b hb => ?_
              rw [hZs]
              rcases hb with (hb | hb) | hb <;> omega
            · rw [HR.out]
              refine hZG.weak fun b hb => ?_
              rw [hZs]
              rcases hb with hb | hb <;> omega

theorem rrecv_any (os : List OutS) (is : List InS) (src dst isrc iv seq : Nat) (ttl : Int) (p : Low) (bl : List UInt8) (now : Int) (hbl : bl.length ≤ 65536) (hseq : seq < 4294967296) (v u bv : Value) (w : World)
    (hv : RowV outCs 10 OutS.parts w w.heap.size v os) (hu : RowV inCs 11 InS.parts w w.heap.size u is) (hbv : BS w w.heap.size bv bl) (hi : WfIs is) (hib : ∀ x ∈ is, x.blk < 2 ^ (x.last + 1).toNat) (hnow : 0 ≤ now) (hnow2 : now ≤ 4611686018427387904) :
    Calls Try.prog 51 #[.agg #[v, u], .int .u16 (src : Int), .int .u16 (dst : Int), .agg #[.int .u16 (isrc : Int), .int .u32 (iv : Int), .int .u32 (seq : Int)], .int .i64 ttl, lowV p bv, .int .i64 now] w (RRecvPost os (recvT is src dst isrc iv seq ttl p bl now) w) := by
  have hle : is.length ≤ 65536 := by have := hi.1; omega
  by_cases hbad : chkL p bl.length ≠ 0 ∨ p.ctl = true
  · exact rrecv_bad os is src dst isrc iv seq ttl p bl now hbl hseq v u bv w hv hu hbv hbad
  have hok : chkL p bl.length = 0 := Classical.byContradiction fun h => hbad (.inl h)
  have hc : p.ctl = false := by cases h : p.ctl with
    | true => exact absurd (.inr h) hbad
    | false => rfl
  cases hs : p.seg with
  | false => exact rrecv_whole os is src dst isrc iv seq ttl p bl now hbl hseq v u bv w hv hu hbv hok hc hs
  | true =>
    by_cases hback : seq < backN seq p
    · exact rrecv_old os is src dst isrc iv seq ttl p bl now hbl hseq v u bv w hv hu hbv hok hc hs hback
    · cases hpl : (placeR is src dst iv (seq - backN seq p) p).2 with
      | false => exact rrecv_not os is src dst isrc iv seq ttl p bl now hbl hseq v u bv w hv hu hbv hle hok hc hs hback hpl
      | true => exact rrecv_seg os is src dst isrc iv seq ttl p bl now hbl hseq v u bv w hv hu hbv hi hib hnow hnow2 hok hc hs hback hpl
end Go.Proofs.Ytkpjinkkjbljkaa
