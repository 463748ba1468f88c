/- The reference: Receive, the early ends. -/
import Derived.Test.YtkpjinkkjbljkaaSrC
import Derived.Test.YtkpjinkkjbljkaaTq4
import Derived.Deep.RegionHeld3
import Derived.Test.YtkpjinkkjbljkaaTq5
import Derived.Deep.DeepCutAuto
namespace Go.Proofs.Ytkpjinkkjbljkaa
open Go.RowKit

/-- What the reference's Receive leaves. -/
def RRecvPost (os : List OutS) (r : List InS × List Msg × Bool) (w : World) (e : Ending) (w' : World) : Prop :=
  Below w.heap.size w w' ∧ ∃ v u x, e = .returned (.tuple #[.agg #[v, u], x, .bool r.2.2]) ∧
    RowV outCs 10 OutS.parts w' w'.heap.size v os ∧ RowV inCs 11 InS.parts w' w'.heap.size u r.1 ∧ AccsV w' w'.heap.size x r.2.1
set_option maxRecDepth 100000 in
set_option maxHeartbeats 8000000 in
theorem rrecv_bad (os : List OutS) (is : List InS) (src dst isrc iv seq : Nat) (ttl : Int) (p : Low) (bl : List UInt8) (now : Int) (hbl : bl.length ≤ 65536) (hseq : seq < 4294967296) (v u bv : Value) (w : World)
    (hv : RowV outCs 10 OutS.parts w w.heap.size v os) (hu : RowV inCs 11 InS.parts w w.heap.size u is) (hbv : BS w w.heap.size bv bl) (hbad : chkL p bl.length ≠ 0 ∨ p.ctl = true) :
    Calls Try.prog 51 #[.agg #[v, u], .int .u16 (src : Int), .int .u16 (dst : Int), .agg #[.int .u16 (isrc : Int), .int .u32 (iv : Int), .int .u32 (seq : Int)], .int .i64 ttl, lowV p bv, .int .i64 now] w (RRecvPost os (recvT is src dst isrc iv seq ttl p bl now) w) := by
  have HR := Lib.hid (show recvT is src dst isrc iv seq ttl p bl now = (is, [], false) from if_pos hbad)
  generalize recvT is src dst isrc iv seq ttl p bl now = r at *
  have HQ := Lib.hid (show ∀ (e : Ending) (w' : World) (v u x : Value), e = .returned (.tuple #[.agg #[v, u], x, .bool r.2.2]) → Below w.heap.size w w' → RowV outCs 10 OutS.parts w' w'.heap.size v os → RowV inCs 11 InS.parts w' w'.heap.size u r.1 → AccsV w' w'.heap.size x r.2.1 → RRecvPost os r w e w' from fun e w' v u x h1 h2 h3 h4 h5 => ⟨h2, v, u, x, h1, h3, h4, h5⟩)
  generalize RRecvPost os r w = Q at *
  obtain ⟨A1, c1, rfl⟩ := rowV_form hv
  obtain ⟨A2, c2, rfl⟩ := rowV_form hu
  obtain ⟨A, c, rfl, _⟩ := id hbv
  have HV := Lib.hid hv
  have HU := Lib.hid hu
  have CK := Lib.hid (rtcheck_any p A bl.length c)
  have HBV := Lib.hid hbv
  have HBL := Lib.hid hbl
  have HSEQ := Lib.hid hseq
  have HBAD := Lib.hid hbad
  clear hbad
  generalize hE : chkL p bl.length = E at *
  clear hE
  generalize hN : os.length = N at *
  generalize hM : is.length = M at *
  generalize hn : bl.length = n at *
  have HN := Lib.hid hN
  have HM := Lib.hid hM
  have Hn := Lib.hid hn
  clear hN hM hn hv hu hbv hbl hseq
  obtain ⟨ct, sg, ap, ze, ix, la, op, bk, fr⟩ := p
  go_enter Try.func51, Try.ntmps51
  go_upto_region 1 with fail
  obtain ⟨W, hW⟩ : ∃ W, W = (((w.alloc (.cells #[.slice A1 N c1, .slice A2 M c2] 47)).alloc (.cells #[.int .u16 (isrc : Int), .int .u32 (iv : Int), .int .u32 (seq : Int)] 41)).alloc (.cells #[.bool ct, .bool sg, .bool ap, .int .i64 ze, .int .i64 ix, .int .i64 la, .int .i64 op, .int .u32 (bk : Int), .bool fr, .slice A n c] 25)).alloc (.cells #[.slice none 0 0, .slice none 0 0] 47) := ⟨_, rfl⟩
  have hA : Below w.heap.size w W := by rw [hW]; exact al4 _ _ _ _ _
  have hb0 : Box W w.heap.size [.slice A1 N c1, .slice A2 M c2] := by rw [hW]; exact (((Box.new _ _ _).alloc _).alloc _).alloc _
  have hb1 : Box W (w.heap.size + 1) [.int .u16 (isrc : Int), .int .u32 (iv : Int), .int .u32 (seq : Int)] := ⟨41, by rw [hW, heap_al, if_neg (by simp), heap_al, if_neg (by simp), heap_al, if_pos (by simp)]⟩
  have hb2 : Box W (w.heap.size + 1 + 1) [.bool ct, .bool sg, .bool ap, .int .i64 ze, .int .i64 ix, .int .i64 la, .int .i64 op, .int .u32 (bk : Int), .bool fr, .slice A n c] := ⟨25, by rw [hW, heap_al, if_neg (by simp), heap_al, if_pos (by simp)]⟩
  have hb3 : Box W (w.heap.size + 1 + 1 + 1) [.slice none 0 0, .slice none 0 0] := ⟨47, by rw [hW, heap_al, if_pos (by simp)]⟩
  have HZ := Lib.hid (show W.heap.size = w.heap.size + 4 by rw [hW]; simp)
  rw [← hW]
  clear hW
  have HA := Lib.hid hA
  have H0 := Lib.hid hb0
  have H1 := Lib.hid hb1
  have H2 := Lib.hid hb2
  have H3 := Lib.hid hb3
  have q0 := hb2.cell (j := 0) rfl
  have q1 := hb2.cell (j := 1) rfl
  have q2 := hb2.cell (j := 2) rfl
  have q3 := hb2.cell (j := 3) rfl
  have q4 := hb2.cell (j := 4) rfl
  have q5 := hb2.cell (j := 5) rfl
  have q6 := hb2.cell (j := 6) rfl
  have q7 := hb2.cell (j := 7) rfl
  have q8 := hb2.cell (j := 8) rfl
  have q9 := hb2.cell (j := 9) rfl
  have z2 := hb2.lt
  clear hA hb0 hb1 hb2 hb3
  go_wp2_with fail
  refine (CK.out _).mono ?_
  rintro e w3 ⟨rfl, hb3⟩
  have HB3 := Lib.hid (HA.out.trans (hb3.mono HA.out.size))
  have K0 := Lib.hid (H0.out.on hb3)
  have K1 := Lib.hid (H1.out.on hb3)
  have K2 := Lib.hid (H2.out.on hb3)
  have K3 := Lib.hid (H3.out.on hb3)
  have KZ := Lib.hid (show w.heap.size + 4 ≤ w3.heap.size from Nat.le_trans (Nat.le_of_eq HZ.out.symm) hb3.size)
  clear hb3 q0 q1 q2 q3 q4 q5 q6 q7 q8 q9 z2 HA H0 H1 H2 H3 HZ CK
  have p0 := K0.out.cell (j := 0) rfl
  have p1 := K0.out.cell (j := 1) rfl
  have s0 := K1.out.cell (j := 0) rfl
  have s1 := K1.out.cell (j := 1) rfl
  have s2 := K1.out.cell (j := 2) rfl
  have q0 := K2.out.cell (j := 0) rfl
  have q1 := K2.out.cell (j := 1) rfl
  have q2 := K2.out.cell (j := 2) rfl
  have q3 := K2.out.cell (j := 3) rfl
  have q4 := K2.out.cell (j := 4) rfl
  have q5 := K2.out.cell (j := 5) rfl
  have q6 := K2.out.cell (j := 6) rfl
  have q7 := K2.out.cell (j := 7) rfl
  have q8 := K2.out.cell (j := 8) rfl
  have q9 := K2.out.cell (j := 9) rfl
  have e0 := K3.out.cell (j := 0) rfl
  have e1 := K3.out.cell (j := 1) rfl
  have f0 := K3.out.free 0
  have f1 := K3.out.free 1
  have z0 := K0.out.lt
  have z1 := K1.out.lt
  have z2 := K2.out.lt
  have z3 := K3.out.lt
  have hbad := HBAD.out
  by_cases hE : E = 0
  · have hct : ct = true := by
      rcases hbad with h | h
      · exact absurd hE h
      · exact h
    subst hct hE
    have q1' : (((0 : Int)) != 0) = false := by simp
    clear hbad
    go_wp2_with fail
    refine bodyPost_ret (res_tr3 rfl _ _ (w.heap.size + 1 + 1 + 1) (.slice A1 N c1) (.slice A2 M c2) rfl ?_) rfl (HQ.out _ _ _ _ _ (by rw [HR.out]; rfl) ?_ ?_ ?_ ?_)
    · exact K3.out.put [.slice A1 N c1, .slice A2 M c2] rfl
    · exact below_puts (b := (w.heap.size + 1 + 1 + 1)) (by omega) 0 [.slice A1 N c1, .slice A2 M c2] HB3.out
    · exact HV.out.on (below_puts (b := (w.heap.size + 1 + 1 + 1)) (by omega) 0 [.slice A1 N c1, .slice A2 M c2] HB3.out)
    · rw [HR.out]; exact HU.out.on (below_puts (b := (w.heap.size + 1 + 1 + 1)) (by omega) 0 [.slice A1 N c1, .slice A2 M c2] HB3.out)
    · rw [HR.out]; exact ManyV.nil _ _
  · have q1' : (E != 0) = true := ne_bool hE
    clear hbad hE
    go_wp2_with fail
    refine bodyPost_ret (res_tr3 rfl _ _ (w.heap.size + 1 + 1 + 1) (.slice A1 N c1) (.slice A2 M c2) rfl ?_) rfl (HQ.out _ _ _ _ _ (by rw [HR.out]; rfl) ?_ ?_ ?_ ?_)
    · exact K3.out.put [.slice A1 N c1, .slice A2 M c2] rfl
    · exact below_puts (b := (w.heap.size + 1 + 1 + 1)) (by omega) 0 [.slice A1 N c1, .slice A2 M c2] HB3.out
    · exact HV.out.on (below_puts (b := (w.heap.size + 1 + 1 + 1)) (by omega) 0 [.slice A1 N c1, .slice A2 M c2] HB3.out)
    · rw [HR.out]; exact HU.out.on (below_puts (b := (w.heap.size + 1 + 1 + 1)) (by omega) 0 [.slice A1 N c1, .slice A2 M c2] HB3.out)
    · rw [HR.out]; exact ManyV.nil _ _
set_option maxRecDepth 100000 in
set_option maxHeartbeats 8000000 in
theorem rrecv_old (os : List OutS) (is : List InS) (src dst isrc iv seq : Nat) (ttl : Int) (p : Low) (bl : List UInt8) (now : Int) (hbl : bl.length ≤ 65536) (hseq : seq < 4294967296) (v u bv : Value) (w : World)
    (hv : RowV outCs 10 OutS.parts w w.heap.size v os) (hu : RowV inCs 11 InS.parts w w.heap.size u is) (hbv : BS w w.heap.size bv bl) (hok : chkL p bl.length = 0) (hc : p.ctl = false) (hs : p.seg = true) (hback : seq < backN seq p) :
    Calls Try.prog 51 #[.agg #[v, u], .int .u16 (src : Int), .int .u16 (dst : Int), .agg #[.int .u16 (isrc : Int), .int .u32 (iv : Int), .int .u32 (seq : Int)], .int .i64 ttl, lowV p bv, .int .i64 now] w (RRecvPost os (recvT is src dst isrc iv seq ttl p bl now) w) := by
  have HR := Lib.hid (show recvT is src dst isrc iv seq ttl p bl now = (is, [], false) from by unfold recvT; rw [if_neg (by rw [hok, hc]; simp), if_neg (by rw [hs]; simp), if_pos hback])
  generalize recvT is src dst isrc iv seq ttl p bl now = r at *
  have HQ := Lib.hid (show ∀ (e : Ending) (w' : World) (v u x : Value), e = .returned (.tuple #[.agg #[v, u], x, .bool r.2.2]) → Below w.heap.size w w' → RowV outCs 10 OutS.parts w' w'.heap.size v os → RowV inCs 11 InS.parts w' w'.heap.size u r.1 → AccsV w' w'.heap.size x r.2.1 → RRecvPost os r w e w' from fun e w' v u x h1 h2 h3 h4 h5 => ⟨h2, v, u, x, h1, h3, h4, h5⟩)
  generalize RRecvPost os r w = Q at *
  obtain ⟨A1, c1, rfl⟩ := rowV_form hv
  obtain ⟨A2, c2, rfl⟩ := rowV_form hu
  obtain ⟨A, c, rfl, _⟩ := id hbv
  have HV := Lib.hid hv
  have HU := Lib.hid hu
  have CK := Lib.hid (rtcheck_any p A bl.length c)
  have HBV := Lib.hid hbv
  have HBL := Lib.hid hbl
  have HSEQ := Lib.hid hseq
  have HCS := Lib.hid (chk_seg hok hc hs)
  have HBK := Lib.hid hback
  rw [hok] at CK
  clear hok hback
  generalize hN : os.length = N at *
  generalize hM : is.length = M at *
  generalize hn : bl.length = n at *
  have HN := Lib.hid hN
  have HM := Lib.hid hM
  have Hn := Lib.hid hn
  clear hN hM hn hv hu hbv hbl hseq
  obtain ⟨ct, sg, ap, ze, ix, la, op, bk, fr⟩ := p
  go_enter Try.func51, Try.ntmps51
  go_upto_region 1 with fail
  obtain ⟨W, hW⟩ : ∃ W, W = (((w.alloc (.cells #[.slice A1 N c1, .slice A2 M c2] 47)).alloc (.cells #[.int .u16 (isrc : Int), .int .u32 (iv : Int), .int .u32 (seq : Int)] 41)).alloc (.cells #[.bool ct, .bool sg, .bool ap, .int .i64 ze, .int .i64 ix, .int .i64 la, .int .i64 op, .int .u32 (bk : Int), .bool fr, .slice A n c] 25)).alloc (.cells #[.slice none 0 0, .slice none 0 0] 47) := ⟨_, rfl⟩
  have hA : Below w.heap.size w W := by rw [hW]; exact al4 _ _ _ _ _
  have hb0 : Box W w.heap.size [.slice A1 N c1, .slice A2 M c2] := by rw [hW]; exact (((Box.new _ _ _).alloc _).alloc _).alloc _
  have hb1 : Box W (w.heap.size + 1) [.int .u16 (isrc : Int), .int .u32 (iv : Int), .int .u32 (seq : Int)] := ⟨41, by rw [hW, heap_al, if_neg (by simp), heap_al, if_neg (by simp), heap_al, if_pos (by simp)]⟩
  have hb2 : Box W (w.heap.size + 1 + 1) [.bool ct, .bool sg, .bool ap, .int .i64 ze, .int .i64 ix, .int .i64 la, .int .i64 op, .int .u32 (bk : Int), .bool fr, .slice A n c] := ⟨25, by rw [hW, heap_al, if_neg (by simp), heap_al, if_pos (by simp)]⟩
  have hb3 : Box W (w.heap.size + 1 + 1 + 1) [.slice none 0 0, .slice none 0 0] := ⟨47, by rw [hW, heap_al, if_pos (by simp)]⟩
  have HZ := Lib.hid (show W.heap.size = w.heap.size + 4 by rw [hW]; simp)
  rw [← hW]
  clear hW
  have HA := Lib.hid hA
  have H0 := Lib.hid hb0
  have H1 := Lib.hid hb1
  have H2 := Lib.hid hb2
  have H3 := Lib.hid hb3
  have q0 := hb2.cell (j := 0) rfl
  have q1 := hb2.cell (j := 1) rfl
  have q2 := hb2.cell (j := 2) rfl
  have q3 := hb2.cell (j := 3) rfl
  have q4 := hb2.cell (j := 4) rfl
  have q5 := hb2.cell (j := 5) rfl
  have q6 := hb2.cell (j := 6) rfl
  have q7 := hb2.cell (j := 7) rfl
  have q8 := hb2.cell (j := 8) rfl
  have q9 := hb2.cell (j := 9) rfl
  have z2 := hb2.lt
  clear hA hb0 hb1 hb2 hb3
  obtain ⟨l1, l2, l3, l4, l5, l6, l7, l8⟩ := HCS.out
  (try dsimp only at l1 l2 l3 l4 l5 l6)
  subst hc hs
  obtain ⟨zn, rfl⟩ := Int.eq_ofNat_of_zero_le l1
  obtain ⟨ln, rfl⟩ := Int.eq_ofNat_of_zero_le l3
  obtain ⟨xn, rfl⟩ := Int.eq_ofNat_of_zero_le l5
  have hsq := HSEQ.out
  have hbk : ((seq : Int) + 8192 - (zn : Int)) % 4294967296 % 8192 = ((backN seq ⟨false, true, ap, (zn : Int), (xn : Int), (ln : Int), op, bk, fr⟩ : Nat) : Int) := by
    unfold backN
    simp only [Int.toNat_natCast]
    omega
  have hbl2 : backN seq ⟨false, true, ap, (zn : Int), (xn : Int), (ln : Int), op, bk, fr⟩ < 8192 := by unfold backN; omega
  generalize backN seq ⟨false, true, ap, (zn : Int), (xn : Int), (ln : Int), op, bk, fr⟩ = bkn at *
  go_wp2_with fail
  refine (CK.out _).mono ?_
  rintro e w3 ⟨rfl, hb3⟩
  have HB3 := Lib.hid (HA.out.trans (hb3.mono HA.out.size))
  have K0 := Lib.hid (H0.out.on hb3)
  have K1 := Lib.hid (H1.out.on hb3)
  have K2 := Lib.hid (H2.out.on hb3)
  have K3 := Lib.hid (H3.out.on hb3)
  have KZ := Lib.hid (show w.heap.size + 4 ≤ w3.heap.size from Nat.le_trans (Nat.le_of_eq HZ.out.symm) hb3.size)
  clear hb3 q0 q1 q2 q3 q4 q5 q6 q7 q8 q9 z2 HA H0 H1 H2 H3 HZ CK
  have p0 := K0.out.cell (j := 0) rfl
  have p1 := K0.out.cell (j := 1) rfl
  have s0 := K1.out.cell (j := 0) rfl
  have s1 := K1.out.cell (j := 1) rfl
  have s2 := K1.out.cell (j := 2) rfl
  have q0 := K2.out.cell (j := 0) rfl
  have q1 := K2.out.cell (j := 1) rfl
  have q2 := K2.out.cell (j := 2) rfl
  have q3 := K2.out.cell (j := 3) rfl
  have q4 := K2.out.cell (j := 4) rfl
  have q5 := K2.out.cell (j := 5) rfl
  have q6 := K2.out.cell (j := 6) rfl
  have q7 := K2.out.cell (j := 7) rfl
  have q8 := K2.out.cell (j := 8) rfl
  have q9 := K2.out.cell (j := 9) rfl
  have e0 := K3.out.cell (j := 0) rfl
  have e1 := K3.out.cell (j := 1) rfl
  have f0 := K3.out.free 0
  have f1 := K3.out.free 1
  have z0 := K0.out.lt
  have z1 := K1.out.lt
  have z2 := K2.out.lt
  have z3 := K3.out.lt
  have hdb : decide (seq < bkn) = true := decide_eq_true HBK.out
  go_upto_region 6 with fail
  rw [hbk]
  go_wp2_with fail
  refine bodyPost_ret (res_tr3 rfl _ _ (w.heap.size + 1 + 1 + 1) (.slice A1 N c1) (.slice A2 M c2) rfl ?_) rfl (HQ.out _ _ _ _ _ (by rw [HR.out]; rfl) ?_ ?_ ?_ ?_)
  · exact K3.out.put [.slice A1 N c1, .slice A2 M c2] rfl
  · exact below_puts (b := (w.heap.size + 1 + 1 + 1)) (by omega) 0 [.slice A1 N c1, .slice A2 M c2] HB3.out
  · exact HV.out.on (below_puts (b := (w.heap.size + 1 + 1 + 1)) (by omega) 0 [.slice A1 N c1, .slice A2 M c2] HB3.out)
  · rw [HR.out]; exact HU.out.on (below_puts (b := (w.heap.size + 1 + 1 + 1)) (by omega) 0 [.slice A1 N c1, .slice A2 M c2] HB3.out)
  · rw [HR.out]; exact ManyV.nil _ _
set_option maxRecDepth 100000 in
set_option maxHeartbeats 8000000 in
theorem rrecv_whole (os : List OutS) (is : List InS) (src dst isrc iv seq : Nat) (ttl : Int) (p : Low) (bl : List UInt8) (now : Int) (hbl : bl.length ≤ 65536) (hseq : seq < 4294967296) (v u bv : Value) (w : World)
    (hv : RowV outCs 10 OutS.parts w w.heap.size v os) (hu : RowV inCs 11 InS.parts w w.heap.size u is) (hbv : BS w w.heap.size bv bl) (hok : chkL p bl.length = 0) (hc : p.ctl = false) (hs : p.seg = false) :
    Calls Try.prog 51 #[.agg #[v, u], .int .u16 (src : Int), .int .u16 (dst : Int), .agg #[.int .u16 (isrc : Int), .int .u32 (iv : Int), .int .u32 (seq : Int)], .int .i64 ttl, lowV p bv, .int .i64 now] w (RRecvPost os (recvT is src dst isrc iv seq ttl p bl now) w) := by
  have HR := Lib.hid (show recvT is src dst isrc iv seq ttl p bl now = (is, [(⟨src, dst, p.app, ttl, isrc, iv, seq⟩, bl)], false) from by unfold recvT; rw [if_neg (by rw [hok, hc]; simp), if_pos hs])
  generalize recvT is src dst isrc iv seq ttl p bl now = r at *
  have HQ := Lib.hid (show ∀ (e : Ending) (w' : World) (v u x : Value), e = .returned (.tuple #[.agg #[v, u], x, .bool r.2.2]) → Below w.heap.size w w' → RowV outCs 10 OutS.parts w' w'.heap.size v os → RowV inCs 11 InS.parts w' w'.heap.size u r.1 → AccsV w' w'.heap.size x r.2.1 → RRecvPost os r w e w' from fun e w' v u x h1 h2 h3 h4 h5 => ⟨h2, v, u, x, h1, h3, h4, h5⟩)
  generalize RRecvPost os r w = Q at *
  obtain ⟨A1, c1, rfl⟩ := rowV_form hv
  obtain ⟨A2, c2, rfl⟩ := rowV_form hu
  obtain ⟨A, c, rfl, _⟩ := id hbv
  have HV := Lib.hid hv
  have HU := Lib.hid hu
  have CK := Lib.hid (rtcheck_any p A bl.length c)
  have HBV := Lib.hid hbv
  have HBL := Lib.hid hbl
  have HSEQ := Lib.hid hseq
  rw [hok] at CK
  clear hok
  generalize hN : os.length = N at *
  generalize hM : is.length = M at *
  generalize hn : bl.length = n at *
  have HN := Lib.hid hN
  have HM := Lib.hid hM
  have Hn := Lib.hid hn
  clear hN hM hn hv hu hbv hbl hseq
  obtain ⟨ct, sg, ap, ze, ix, la, op, bk, fr⟩ := p
  go_enter Try.func51, Try.ntmps51
  go_upto_region 1 with fail
  obtain ⟨W, hW⟩ : ∃ W, W = (((w.alloc (.cells #[.slice A1 N c1, .slice A2 M c2] 47)).alloc (.cells #[.int .u16 (isrc : Int), .int .u32 (iv : Int), .int .u32 (seq : Int)] 41)).alloc (.cells #[.bool ct, .bool sg, .bool ap, .int .i64 ze, .int .i64 ix, .int .i64 la, .int .i64 op, .int .u32 (bk : Int), .bool fr, .slice A n c] 25)).alloc (.cells #[.slice none 0 0, .slice none 0 0] 47) := ⟨_, rfl⟩
  have hA : Below w.heap.size w W := by rw [hW]; exact al4 _ _ _ _ _
  have hb0 : Box W w.heap.size [.slice A1 N c1, .slice A2 M c2] := by rw [hW]; exact (((Box.new _ _ _).alloc _).alloc _).alloc _
  have hb1 : Box W (w.heap.size + 1) [.int .u16 (isrc : Int), .int .u32 (iv : Int), .int .u32 (seq : Int)] := ⟨41, by rw [hW, heap_al, if_neg (by simp), heap_al, if_neg (by simp), heap_al, if_pos (by simp)]⟩
  have hb2 : Box W (w.heap.size + 1 + 1) [.bool ct, .bool sg, .bool ap, .int .i64 ze, .int .i64 ix, .int .i64 la, .int .i64 op, .int .u32 (bk : Int), .bool fr, .slice A n c] := ⟨25, by rw [hW, heap_al, if_neg (by simp), heap_al, if_pos (by simp)]⟩
  have hb3 : Box W (w.heap.size + 1 + 1 + 1) [.slice none 0 0, .slice none 0 0] := ⟨47, by rw [hW, heap_al, if_pos (by simp)]⟩
  have HZ := Lib.hid (show W.heap.size = w.heap.size + 4 by rw [hW]; simp)
  rw [← hW]
  clear hW
  have HA := Lib.hid hA
  have H0 := Lib.hid hb0
  have H1 := Lib.hid hb1
  have H2 := Lib.hid hb2
  have H3 := Lib.hid hb3
  have q0 := hb2.cell (j := 0) rfl
  have q1 := hb2.cell (j := 1) rfl
  have q2 := hb2.cell (j := 2) rfl
  have q3 := hb2.cell (j := 3) rfl
  have q4 := hb2.cell (j := 4) rfl
  have q5 := hb2.cell (j := 5) rfl
  have q6 := hb2.cell (j := 6) rfl
  have q7 := hb2.cell (j := 7) rfl
  have q8 := hb2.cell (j := 8) rfl
  have q9 := hb2.cell (j := 9) rfl
  have z2 := hb2.lt
  clear hA hb0 hb1 hb2 hb3
  dsimp only at HR
  subst hc hs
  go_wp2_with fail
  refine (CK.out _).mono ?_
  rintro e w3 ⟨rfl, hb3⟩
  have HB3 := Lib.hid (HA.out.trans (hb3.mono HA.out.size))
  have K0 := Lib.hid (H0.out.on hb3)
  have K1 := Lib.hid (H1.out.on hb3)
  have K2 := Lib.hid (H2.out.on hb3)
  have K3 := Lib.hid (H3.out.on hb3)
  have KZ := Lib.hid (show w.heap.size + 4 ≤ w3.heap.size from Nat.le_trans (Nat.le_of_eq HZ.out.symm) hb3.size)
  clear hb3 q0 q1 q2 q3 q4 q5 q6 q7 q8 q9 z2 HA H0 H1 H2 H3 HZ CK
  have p0 := K0.out.cell (j := 0) rfl
  have p1 := K0.out.cell (j := 1) rfl
  have s0 := K1.out.cell (j := 0) rfl
  have s1 := K1.out.cell (j := 1) rfl
  have s2 := K1.out.cell (j := 2) rfl
  have q0 := K2.out.cell (j := 0) rfl
  have q1 := K2.out.cell (j := 1) rfl
  have q2 := K2.out.cell (j := 2) rfl
  have q3 := K2.out.cell (j := 3) rfl
  have q4 := K2.out.cell (j := 4) rfl
  have q5 := K2.out.cell (j := 5) rfl
  have q6 := K2.out.cell (j := 6) rfl
  have q7 := K2.out.cell (j := 7) rfl
  have q8 := K2.out.cell (j := 8) rfl
  have q9 := K2.out.cell (j := 9) rfl
  have e0 := K3.out.cell (j := 0) rfl
  have e1 := K3.out.cell (j := 1) rfl
  have f0 := K3.out.free 0
  have f1 := K3.out.free 1
  have z0 := K0.out.lt
  have z1 := K1.out.lt
  have z2 := K2.out.lt
  have z3 := K3.out.lt
  go_upto_region 4 with fail
  have HSW := Lib.hid (fun W' (hW' : Below w3.heap.size w3 W') => HBV.out.on (HB3.out.trans (hW'.mono HB3.out.size)))
  have ny := Ne.symm (show w.heap.size ≠ w.heap.size + 1 + 1 + 1 by omega)
  have ny1 := Ne.symm (show w.heap.size + 1 ≠ w.heap.size + 1 + 1 + 1 by omega)
  have ny2 := Ne.symm (show w.heap.size + 1 + 1 ≠ w.heap.size + 1 + 1 + 1 by omega)
  have ny3 : w.heap.size + 1 + 1 ≠ w.heap.size := by omega
  have hz4 := KZ.out
  go_region_held3 (fun w' => w'.cell? ⟨w.heap.size, 0, none⟩ = some (.slice A1 N c1) ∧ w'.cell? ⟨w.heap.size, 1, none⟩ = some (.slice A2 M c2) ∧ w'.cell? ⟨w.heap.size + 1, 0, none⟩ = some (.int .u16 (isrc : Int)) ∧ w'.cell? ⟨w.heap.size + 1, 1, none⟩ = some (.int .u32 (iv : Int)) ∧ w'.cell? ⟨w.heap.size + 1, 2, none⟩ = some (.int .u32 (seq : Int)) ∧ w'.cell? ⟨w.heap.size + 1 + 1, 2, none⟩ = some (.bool ap) ∧ w'.cell? ⟨w.heap.size + 1 + 1, 9, none⟩ = some (.slice A n c)) (go_keep)
    (first
      | (refine step_by _ elB rfl (.tmp 43) (.tmp 45) rfl rfl (OB.nil _) rfl (HSW.out _ (((Below.refl _ _).drew).alloc (Nat.le_refl _) _)) ?_ ?_ ?_
         (case refine_1 => rw [Hn.out]; have := HBL.out; simp; omega)
         (case refine_2 => simp)
         intro v9 w9 hown9 hb9
         rw [List.nil_append] at hown9
         have hb10 : Below w3.heap.size w3 w9 := (((Below.refl _ _).drew).alloc (Nat.le_refl _) _).trans hb9
         have HB10 := Lib.hid hb10
         have p90 := (K0.out.on hb10).cell (j := 0) rfl
         have p91 := (K0.out.on hb10).cell (j := 1) rfl
         have s90 := (K1.out.on hb10).cell (j := 0) rfl
         have s91 := (K1.out.on hb10).cell (j := 1) rfl
         have s92 := (K1.out.on hb10).cell (j := 2) rfl
         have q92 := (K2.out.on hb10).cell (j := 2) rfl
         have q99 := (K2.out.on hb10).cell (j := 9) rfl
         have e90 := (K3.out.on hb10).cell (j := 0) rfl
         have e91 := (K3.out.on hb10).cell (j := 1) rfl
         have f90 := (K3.out.on hb10).free 0
         have f91 := (K3.out.on hb10).free 1
         have y0 := (K0.out.on hb10).lt
         have y1 := (K1.out.on hb10).lt
         have y2 := (K2.out.on hb10).lt
         have y3 := (K3.out.on hb10).lt
         obtain ⟨A9, c9, rfl⟩ := own_slice hown9
         have HO9 := Lib.hid hown9
         clear hown9 hb9 hb10))
  all_goals
    clear p0 p1 s0 s1 s2 q0 q1 q2 q3 q4 q5 q6 q7 q8 q9 e0 e1 f0 f1 z0 z1 z2 z3 p90 p91 s90 s91 s92 q92 q99 e90 e91 f90 f91 ny ny1 ny2 ny3
    go_wp2_with fail
    obtain ⟨Y, hY⟩ : ∃ Y, Y = w9.setCells (w.heap.size + 1 + 1 + 1) 0 [.slice A1 N c1, .slice A2 M c2] := ⟨_, rfl⟩
    have hYs : Y.heap.size = w9.heap.size := by rw [hY]; exact size_puts _ _ _ _
    have hYB : Below w.heap.size w Y := by rw [hY]; exact below_puts (b := (w.heap.size + 1 + 1 + 1)) (by omega) 0 _ (HB3.out.trans (HB10.out.mono HB3.out.size))
    have hYX : OB Y w3.heap.size (.slice A9 bl.length c9) bl := by rw [hY]; exact own_far (own_far HO9.out (by omega) 0 _) (by omega) 1 _
    have hYR : Box Y (w.heap.size + 1 + 1 + 1) [.slice A1 N c1, .slice A2 M c2] := by rw [hY]; exact (K3.out.on HB10.out).put _ rfl
    rw [show (w9.setCell ⟨w.heap.size + 1 + 1 + 1, 0, none⟩ (.slice A1 N c1)).setCell ⟨w.heap.size + 1 + 1 + 1, 1, none⟩ (.slice A2 M c2) = Y from hY.symm]
    clear hY
    refine bodyPost_ret (res_tr3 rfl _ _ (w.heap.size + 1 + 1 + 1) (.slice A1 N c1) (.slice A2 M c2) rfl ?_) rfl (HQ.out _ _ _ _ _ (by rw [HR.out]; rfl) ?_ ?_ ?_ ?_)
    · exact hYR.alloc _
    · exact hYB.alloc hYB.size _
    · exact HV.out.on (hYB.alloc hYB.size _)
    · rw [HR.out]; exact HU.out.on (hYB.alloc hYB.size _)
    · rw [HR.out, ← hYs]
      exact (accs_own (base := w3.heap.size) ⟨src, dst, ap, ttl, isrc, iv, seq⟩ bl A9 c9 hYX (by rw [hYs]; exact HB10.out.size)).reads

/-- The blocks of a message that is being put together: old ones, and new ones other than its own. -/
def PQ (w w3 : World) (bm : Nat) (wx : World) (b : Nat) : Prop := b < w.heap.size ∨ (w3.heap.size ≤ b ∧ b ≠ bm ∧ b < wx.heap.size)
/-- The message in its variable. -/
structure QSt (x : InS) (w w3 wx : World) (bm : Nat) (vm : Value) : Prop where
  be : Below w3.heap.size w3 wx
  bx : BT wx bm 95 (inCs x vm)
  pa : PartsP wx (PQ w w3 bm wx) vm x.parts
  lt : w3.heap.size ≤ bm ∧ w.heap.size ≤ w3.heap.size
section
variable {x x' : InS} {w w3 wx wy : World} {bm : Nat} {vm vm' : Value}
theorem PQ.lt {b : Nat} (h : PQ w w3 bm wx b) (h1 : w.heap.size ≤ w3.heap.size) (h2 : w3.heap.size ≤ wx.heap.size) : b < wx.heap.size := by
  rcases h with h | h
  · omega
  · exact h.2.2
theorem PQ.on {b : Nat} (h : PQ w w3 bm wx b) (h1 : wx.heap.size ≤ wy.heap.size) : PQ w w3 bm wy b := by
  rcases h with h | h
  · exact .inl h
  · exact .inr ⟨h.1, h.2.1, Nat.lt_of_lt_of_le h.2.2 h1⟩
theorem QSt.on (h : QSt x w w3 wx bm vm) (hb : Below wx.heap.size wx wy) : QSt x w w3 wy bm vm :=
  ⟨bthen h.be hb, h.bx.on hb, (partsP_below h.pa hb fun _ hb' => hb'.lt h.lt.2 h.be.size).imp fun _ hb' => hb'.on hb.size, h.lt⟩
/-- A field is written. -/
theorem QSt.set (h : QSt x w w3 wx bm vm) {j : Nat} {u : Value} (hs : (inCs x vm).set j u = inCs x' vm) (hp : x'.parts = x.parts) : QSt x' w w3 (wx.setCell ⟨bm, j, none⟩ u) bm vm := by
  refine ⟨h.be.setCell (p := ⟨bm, j, none⟩) h.lt.1 _, by rw [← hs]; exact h.bx.set j u, ?_, h.lt⟩
  rw [hp]
  refine (h.pa.keep fun b o hb => ?_).imp fun _ hb' => hb'.on (by simp)
  have hne : b ≠ bm := by
    rcases hb with hb | hb
    · have := h.lt
      omega
    · exact hb.2.1
  unfold World.cell?
  rw [heap_setCell_other _ ⟨bm, j, none⟩ b u (show b ≠ bm from hne)]
theorem QSt.drew (h : QSt x w w3 wx bm vm) : QSt x w w3 wx.drew bm vm := h.on (al_drew _)
end
theorem newP {wx : World} {P : Nat → Prop} {bp n : Nat} {cs : List Value} (hc : cs = List.replicate n (.slice none 0 0)) (hb : Box wx bp cs) (hP : P bp) (hn : n ≤ 65536) : PartsP wx P (.slice (some ⟨bp, 0, none⟩) n n) (List.replicate n []) := by
  subst hc
  refine ⟨List.replicate n (.slice none 0 0), by simp, ⟨_, n, by simp, by simp, by simp only [maxLen]; omega, by simp, .inr ⟨bp, 0, rfl, hP, fun k u hu => by rw [Nat.zero_add]; exact hb.cell hu⟩⟩, fun k u p hu hp => ?_⟩
  have h1 : u = .slice none 0 0 := List.eq_of_mem_replicate (List.mem_of_getElem? hu)
  have h2 : p = [] := List.eq_of_mem_replicate (List.mem_of_getElem? hp)
  subst h1 h2
  exact ⟨none, 0, rfl, Nat.le_refl _, Nat.zero_le _, by simp [bys], .inl rfl⟩
theorem place_bad {is : List InS} {src dst iv ze : Nat} {p : Low} (h : (placeR is src dst iv ze p).2 = false) : ∃ i x, is.findIdx? (sameIn src dst iv ze) = some i ∧ is[i]? = some x ∧ otherIn p x = true := by
  unfold placeR at h
  cases hf : is.findIdx? (sameIn src dst iv ze) with
  | none => rw [hf] at h; cases h
  | some i =>
    rw [hf] at h
    obtain ⟨hi, _, _⟩ := List.findIdx?_eq_some_iff_getElem.1 hf
    have hx : is.getD i ⟨0, 0, false, 0, 0, 0, [], 0, 0, 0, false⟩ = is[i] := by rw [List.getD_eq_getElem?_getD, List.getElem?_eq_getElem hi]; rfl
    simp only [hx] at h
    refine ⟨i, is[i], rfl, List.getElem?_eq_getElem hi, ?_⟩
    cases ho : otherIn p is[i] with
    | true => rfl
    | false => rw [ho] at h; simp at h
set_option maxRecDepth 100000 in
set_option maxHeartbeats 8000000 in
theorem rrecv_not (os : List OutS) (is : List InS) (src dst isrc iv seq : Nat) (ttl : Int) (p : Low) (bl : List UInt8) (now : Int) (hbl : bl.length ≤ 65536) (hseq : seq < 4294967296) (v u bv : Value) (w : World)
    (hv : RowV outCs 10 OutS.parts w w.heap.size v os) (hu : RowV inCs 11 InS.parts w w.heap.size u is) (hbv : BS w w.heap.size bv bl) (hle : is.length ≤ 65536) (hok : chkL p bl.length = 0) (hc : p.ctl = false) (hs : p.seg = true) (hback : ¬ seq < backN seq p) (hpl : (placeR is src dst iv (seq - backN seq p) p).2 = false) :
    Calls Try.prog 51 #[.agg #[v, u], .int .u16 (src : Int), .int .u16 (dst : Int), .agg #[.int .u16 (isrc : Int), .int .u32 (iv : Int), .int .u32 (seq : Int)], .int .i64 ttl, lowV p bv, .int .i64 now] w (RRecvPost os (recvT is src dst isrc iv seq ttl p bl now) w) := by
  have HR := Lib.hid (show recvT is src dst isrc iv seq ttl p bl now = (is, [], false) from by unfold recvT; rw [if_neg (by rw [hok, hc]; simp), if_neg (by rw [hs]; simp), if_neg hback, if_pos hpl])
  generalize recvT is src dst isrc iv seq ttl p bl now = r at *
  have HQ := Lib.hid (show ∀ (e : Ending) (w' : World) (v u x : Value), e = .returned (.tuple #[.agg #[v, u], x, .bool r.2.2]) → Below w.heap.size w w' → RowV outCs 10 OutS.parts w' w'.heap.size v os → RowV inCs 11 InS.parts w' w'.heap.size u r.1 → AccsV w' w'.heap.size x r.2.1 → RRecvPost os r w e w' from fun e w' v u x h1 h2 h3 h4 h5 => ⟨h2, v, u, x, h1, h3, h4, h5⟩)
  generalize RRecvPost os r w = Q at *
  obtain ⟨A1, c1, rfl⟩ := rowV_form hv
  obtain ⟨A2, c2, rfl⟩ := rowV_form hu
  obtain ⟨A, c, rfl, _⟩ := id hbv
  have HV := Lib.hid hv
  have HU := Lib.hid hu
  have CK := Lib.hid (rtcheck_any p A bl.length c)
  have HBV := Lib.hid hbv
  have HBL := Lib.hid hbl
  have HSEQ := Lib.hid hseq
  have HCS := Lib.hid (chk_seg hok hc hs)
  have HBK := Lib.hid hback
  have HLE := Lib.hid hle
  obtain ⟨i, xi, hfo, hxi, hoth⟩ := place_bad hpl
  have HFO := Lib.hid hfo
  rw [hok] at CK
  clear hok hback hle hpl hfo
  generalize hN : os.length = N at *
  generalize hM : is.length = M at *
  generalize hn : bl.length = n at *
  have HN := Lib.hid hN
  have HM := Lib.hid hM
  have Hn := Lib.hid hn
  clear hN hM hn hv hu hbv hbl hseq
  obtain ⟨ct, sg, ap, ze, ix, la, op, bk, fr⟩ := p
  go_enter Try.func51, Try.ntmps51
  go_upto_region 1 with fail
  obtain ⟨W, hW⟩ : ∃ W, W = (((w.alloc (.cells #[.slice A1 N c1, .slice A2 M c2] 47)).alloc (.cells #[.int .u16 (isrc : Int), .int .u32 (iv : Int), .int .u32 (seq : Int)] 41)).alloc (.cells #[.bool ct, .bool sg, .bool ap, .int .i64 ze, .int .i64 ix, .int .i64 la, .int .i64 op, .int .u32 (bk : Int), .bool fr, .slice A n c] 25)).alloc (.cells #[.slice none 0 0, .slice none 0 0] 47) := ⟨_, rfl⟩
  have hA : Below w.heap.size w W := by rw [hW]; exact al4 _ _ _ _ _
  have hb0 : Box W w.heap.size [.slice A1 N c1, .slice A2 M c2] := by rw [hW]; exact (((Box.new _ _ _).alloc _).alloc _).alloc _
  have hb1 : Box W (w.heap.size + 1) [.int .u16 (isrc : Int), .int .u32 (iv : Int), .int .u32 (seq : Int)] := ⟨41, by rw [hW, heap_al, if_neg (by simp), heap_al, if_neg (by simp), heap_al, if_pos (by simp)]⟩
  have hb2 : Box W (w.heap.size + 1 + 1) [.bool ct, .bool sg, .bool ap, .int .i64 ze, .int .i64 ix, .int .i64 la, .int .i64 op, .int .u32 (bk : Int), .bool fr, .slice A n c] := ⟨25, by rw [hW, heap_al, if_neg (by simp), heap_al, if_pos (by simp)]⟩
  have hb3 : Box W (w.heap.size + 1 + 1 + 1) [.slice none 0 0, .slice none 0 0] := ⟨47, by rw [hW, heap_al, if_pos (by simp)]⟩
  have HZ := Lib.hid (show W.heap.size = w.heap.size + 4 by rw [hW]; simp)
  rw [← hW]
  clear hW
  have HA := Lib.hid hA
  have H0 := Lib.hid hb0
  have H1 := Lib.hid hb1
  have H2 := Lib.hid hb2
  have H3 := Lib.hid hb3
  have q0 := hb2.cell (j := 0) rfl
  have q1 := hb2.cell (j := 1) rfl
  have q2 := hb2.cell (j := 2) rfl
  have q3 := hb2.cell (j := 3) rfl
  have q4 := hb2.cell (j := 4) rfl
  have q5 := hb2.cell (j := 5) rfl
  have q6 := hb2.cell (j := 6) rfl
  have q7 := hb2.cell (j := 7) rfl
  have q8 := hb2.cell (j := 8) rfl
  have q9 := hb2.cell (j := 9) rfl
  have z2 := hb2.lt
  clear hA hb0 hb1 hb2 hb3
  obtain ⟨l1, l2, l3, l4, l5, l6, l7, l8⟩ := HCS.out
  (try dsimp only at l1 l2 l3 l4 l5 l6)
  subst hc hs
  obtain ⟨zn, rfl⟩ := Int.eq_ofNat_of_zero_le l1
  obtain ⟨ln, rfl⟩ := Int.eq_ofNat_of_zero_le l3
  obtain ⟨xn, rfl⟩ := Int.eq_ofNat_of_zero_le l5
  have hsq := HSEQ.out
  have hbk : ((seq : Int) + 8192 - (zn : Int)) % 4294967296 % 8192 = ((backN seq ⟨false, true, ap, (zn : Int), (xn : Int), (ln : Int), op, bk, fr⟩ : Nat) : Int) := by
    unfold backN
    simp only [Int.toNat_natCast]
    omega
  have hbl2 : backN seq ⟨false, true, ap, (zn : Int), (xn : Int), (ln : Int), op, bk, fr⟩ < 8192 := by unfold backN; omega
  generalize backN seq ⟨false, true, ap, (zn : Int), (xn : Int), (ln : Int), op, bk, fr⟩ = bkn at *
  go_wp2_with fail
  refine (CK.out _).mono ?_
  rintro e w3 ⟨rfl, hb3⟩
  have HB3 := Lib.hid (HA.out.trans (hb3.mono HA.out.size))
  have K0 := Lib.hid (H0.out.on hb3)
  have K1 := Lib.hid (H1.out.on hb3)
  have K2 := Lib.hid (H2.out.on hb3)
  have K3 := Lib.hid (H3.out.on hb3)
  have KZ := Lib.hid (show w.heap.size + 4 ≤ w3.heap.size from Nat.le_trans (Nat.le_of_eq HZ.out.symm) hb3.size)
  clear hb3 q0 q1 q2 q3 q4 q5 q6 q7 q8 q9 z2 HA H0 H1 H2 H3 HZ CK
  have p0 := K0.out.cell (j := 0) rfl
  have p1 := K0.out.cell (j := 1) rfl
  have s0 := K1.out.cell (j := 0) rfl
  have s1 := K1.out.cell (j := 1) rfl
  have s2 := K1.out.cell (j := 2) rfl
  have q0 := K2.out.cell (j := 0) rfl
  have q1 := K2.out.cell (j := 1) rfl
  have q2 := K2.out.cell (j := 2) rfl
  have q3 := K2.out.cell (j := 3) rfl
  have q4 := K2.out.cell (j := 4) rfl
  have q5 := K2.out.cell (j := 5) rfl
  have q6 := K2.out.cell (j := 6) rfl
  have q7 := K2.out.cell (j := 7) rfl
  have q8 := K2.out.cell (j := 8) rfl
  have q9 := K2.out.cell (j := 9) rfl
  have e0 := K3.out.cell (j := 0) rfl
  have e1 := K3.out.cell (j := 1) rfl
  have f0 := K3.out.free 0
  have f1 := K3.out.free 1
  have z0 := K0.out.lt
  have z1 := K1.out.lt
  have z2 := K2.out.lt
  have z3 := K3.out.lt
  have hdb : decide (seq < bkn) = false := decide_eq_false HBK.out
  go_upto_region 6 with fail
  rw [hbk]
  go_upto_region 9 with fail
  have hzz : ((seq : Int) - (bkn : Int)) % 4294967296 = ((seq - bkn : Nat) : Int) := by have := HBK.out; omega
  rw [hzz]
  generalize hz : seq - bkn = zz at *
  clear hzz
  have hfn : findN is src dst zz iv = ((i : Nat) : Int) := by unfold findN; rw [HFO.out]
  have CF := Lib.hid (rfind_any is src dst zz iv (.slice A2 M c2) w3 (HU.out.on HB3.out) (by rw [HM.out]; exact HLE.out))
  rw [hfn] at CF
  clear hfn
  go_wp2_with fail
  refine CF.out.mono ?_
  rintro e w5 ⟨rfl, hb5⟩
  have HB5 := Lib.hid hb5
  have hz4 := KZ.out
  clear hb5 p0 p1 s0 s1 s2 q0 q1 q2 q3 q4 q5 q6 q7 q8 q9 e0 e1 f0 f1 z0 z1 z2 z3 CF
  have p0 := (K0.out.on HB5.out).cell (j := 0) rfl
  have p1 := (K0.out.on HB5.out).cell (j := 1) rfl
  have s1 := (K1.out.on HB5.out).cell (j := 1) rfl
  have q2 := (K2.out.on HB5.out).cell (j := 2) rfl
  have q4 := (K2.out.on HB5.out).cell (j := 4) rfl
  have q5 := (K2.out.on HB5.out).cell (j := 5) rfl
  have q9 := (K2.out.on HB5.out).cell (j := 9) rfl
  have z0 := (K0.out.on HB5.out).lt
  have z1 := (K1.out.on HB5.out).lt
  have z2 := (K2.out.on HB5.out).lt
  obtain ⟨cur, hcur, mk⟩ := make_parts (ln + 1) (by omega)
  have mk2 : ∀ W : World, (Instr.makeSlice 73 (.int .i64 ((ln : Int) + 1)) (.int .i64 ((ln : Int) + 1))).run Try.prog W = .ok (.slice (some ⟨W.heap.size, 0, none⟩) (ln + 1) (ln + 1)) (W.alloc (.cells cur 23)) := mk
  have HCUR := Lib.hid hcur
  clear mk hcur
  go_upto_region 10 with fail
  go_cut [20] (fun t20 wx => ∃ (bm bp : Nat), t20 = .pointer (some ⟨bm, 0, none⟩) ∧ QSt (newIn src dst zz iv ⟨false, true, ap, (zn : Int), (xn : Int), (ln : Int), op, bk, fr⟩) w w3 wx bm (.slice (some ⟨bp, 0, none⟩) (ln + 1) (ln + 1)))
  case first =>
    have hwl : IntKind.i64.wrap ((ln : Int) + 1) = (ln : Int) + 1 := IntWalk.i64_in _ (by omega)
    go_region_held3 (fun w' => w'.cell? ⟨w.heap.size + 1, 1, none⟩ = some (.int .u32 (iv : Int)) ∧ w'.cell? ⟨w.heap.size + 1 + 1, 2, none⟩ = some (.bool ap) ∧ w'.cell? ⟨w.heap.size + 1 + 1, 5, none⟩ = some (.int .i64 (ln : Int))) (go_keep) (fail)
    all_goals
      clear mk2 hwl p0 p1 q2 q4 q5 q9 s1
      go_wp2_with fail
      go_meet
    all_goals
      first
        | (refine ⟨w5.heap.size + 1, w5.heap.size, rfl, ⟨HB5.out.trans ((below_drewN (al2 _ _ _) 1).mono HB5.out.size), ?_, ?_, ⟨by have := HB5.out.size; omega, HB3.out.size⟩⟩⟩
           · exact (show BT (((w5.alloc (.cells cur 23)).alloc _).drew) (w5.heap.size + 1) _ _ from BT.on (by have h := BT.new (w5.alloc (.cells cur 23)) (inCs (newIn src dst zz iv ⟨false, true, ap, (zn : Int), (xn : Int), (ln : Int), op, bk, fr⟩) (.slice (some ⟨w5.heap.size, 0, none⟩) (ln + 1) (ln + 1))) 95; rw [World.size_alloc] at h; exact h) ((Below.refl _ _).drew))
           · show PartsP _ _ _ (List.replicate (((ln : Int) + 1).toNat) [])
             rw [show ((ln : Int) + 1).toNat = ln + 1 by omega]
             exact newP HCUR.out ((Box.new w5 cur 23).alloc _).drew (.inr ⟨HB5.out.size, by omega, by simp <;> omega⟩) (by omega))
        | (refine ⟨w5.heap.size, w5.heap.size + 1, rfl, ⟨HB5.out.trans ((below_drewN (al2 _ _ _) 1).mono HB5.out.size), ?_, ?_, ⟨HB5.out.size, HB3.out.size⟩⟩⟩
           · exact (show BT (((w5.alloc _).alloc (.cells cur 23)).drew) w5.heap.size _ _ from BT.on (BT.on (BT.new w5 (inCs (newIn src dst zz iv ⟨false, true, ap, (zn : Int), (xn : Int), (ln : Int), op, bk, fr⟩) (.slice (some ⟨w5.heap.size + 1, 0, none⟩) (ln + 1) (ln + 1))) 95) (al1 _ _)) ((Below.refl _ _).drew))
           · show PartsP _ _ _ (List.replicate (((ln : Int) + 1).toNat) [])
             rw [show ((ln : Int) + 1).toNat = ln + 1 by omega]
             exact newP HCUR.out (Box.drew (by have h := Box.new (w5.alloc (.cells (inCs (newIn src dst zz iv ⟨false, true, ap, (zn : Int), (xn : Int), (ln : Int), op, bk, fr⟩) (.slice (some ⟨w5.heap.size + 1, 0, none⟩) (ln + 1) (ln + 1))).toArray 95)) cur 23; rw [World.size_alloc] at h; exact h)) (.inr ⟨by have := HB5.out.size; omega, by omega, by simp <;> omega⟩) (by omega))
        | fail
  case rest =>
    obtain ⟨bm, bp, rfl, hQ0⟩ := hcut
    have HQ0 := Lib.hid hQ0
    clear hQ0 mk2 HCUR p0 p1 s1 q2 q4 q5 q9 z0 z1 z2 HB5
    obtain ⟨b1, o1, cc, u1, hform, hB, hcell, hpv⟩ := rowP_cells inCs_len (by omega) (rowV_P HU.out) hxi
    injection hform with hf1 hf2 hf3
    clear hf2
    subst hf1 hf3
    obtain ⟨A7, n7, c7, rfl⟩ : ∃ A n c, u1 = .slice A n c := by
      obtain ⟨_, _, ⟨A, c, h, _⟩, _⟩ := id hpv
      exact ⟨A, _, c, h⟩
    obtain ⟨xs1, xd1, xa1, xz1, xi1, xl1, xp1, xb1, xdu1, xt1, xf1⟩ := xi
    have HBW := Lib.hid (show Below w.heap.size w wc from HB3.out.trans (HQ0.out.be.mono HB3.out.size))
    have d0 : wc.cell? ⟨b1, o1 + i * 11, none⟩ = some (.int .u16 (xs1 : Int)) := (HBW.out.cell (p := ⟨b1, _, none⟩) hB).trans (hcell 0 _ rfl)
    have d1 : wc.cell? ⟨b1, o1 + i * 11 + 1, none⟩ = some (.int .u16 (xd1 : Int)) := (HBW.out.cell (p := ⟨b1, _, none⟩) hB).trans (hcell 1 _ rfl)
    have d2 : wc.cell? ⟨b1, o1 + i * 11 + 2, none⟩ = some (.bool xa1) := (HBW.out.cell (p := ⟨b1, _, none⟩) hB).trans (hcell 2 _ rfl)
    have d3 : wc.cell? ⟨b1, o1 + i * 11 + 3, none⟩ = some (.int .u32 (xz1 : Int)) := (HBW.out.cell (p := ⟨b1, _, none⟩) hB).trans (hcell 3 _ rfl)
    have d4 : wc.cell? ⟨b1, o1 + i * 11 + 4, none⟩ = some (.int .u32 (xi1 : Int)) := (HBW.out.cell (p := ⟨b1, _, none⟩) hB).trans (hcell 4 _ rfl)
    have d5 : wc.cell? ⟨b1, o1 + i * 11 + 5, none⟩ = some (.int .i64 xl1) := (HBW.out.cell (p := ⟨b1, _, none⟩) hB).trans (hcell 5 _ rfl)
    have d6 : wc.cell? ⟨b1, o1 + i * 11 + 6, none⟩ = some (.slice A7 n7 c7) := (HBW.out.cell (p := ⟨b1, _, none⟩) hB).trans (hcell 6 _ rfl)
    have d7 : wc.cell? ⟨b1, o1 + i * 11 + 7, none⟩ = some (.int .u32 (xb1 : Int)) := (HBW.out.cell (p := ⟨b1, _, none⟩) hB).trans (hcell 7 _ rfl)
    have d8 : wc.cell? ⟨b1, o1 + i * 11 + 8, none⟩ = some (.int .i64 xdu1) := (HBW.out.cell (p := ⟨b1, _, none⟩) hB).trans (hcell 8 _ rfl)
    have d9 : wc.cell? ⟨b1, o1 + i * 11 + 9, none⟩ = some (.int .i64 xt1) := (HBW.out.cell (p := ⟨b1, _, none⟩) hB).trans (hcell 9 _ rfl)
    have d10 : wc.cell? ⟨b1, o1 + i * 11 + 10, none⟩ = some (.bool xf1) := (HBW.out.cell (p := ⟨b1, _, none⟩) hB).trans (hcell 10 _ rfl)
    have hiM : i < M := by rw [← HM.out]; exact (List.getElem?_eq_some_iff.1 hxi).1
    have i0 : (0 : Int) ≤ (i : Int) := by omega
    have iM : (i : Int) < (M : Int) := by omega
    have hbz : b1 < wc.heap.size := by have := HBW.out.size; omega
    have nb1 : b1 ≠ bm := by have := HQ0.out.lt; omega
    have HPV := Lib.hid (partsP_below hpv HBW.out fun _ h => h)
    have x0 := HQ0.out.bx.box.cell (j := 0) rfl
    have x1 := HQ0.out.bx.box.cell (j := 1) rfl
    have x2 := HQ0.out.bx.box.cell (j := 2) rfl
    have x3 := HQ0.out.bx.box.cell (j := 3) rfl
    have x4 := HQ0.out.bx.box.cell (j := 4) rfl
    have x5 := HQ0.out.bx.box.cell (j := 5) rfl
    have x6 := HQ0.out.bx.box.cell (j := 6) rfl
    have x7 := HQ0.out.bx.box.cell (j := 7) rfl
    have x8 := HQ0.out.bx.box.cell (j := 8) rfl
    have x9 := HQ0.out.bx.box.cell (j := 9) rfl
    have x10 := HQ0.out.bx.box.cell (j := 10) rfl
    have y0 := HQ0.out.bx.box.free 0
    have y1 := HQ0.out.bx.box.free 1
    have y2 := HQ0.out.bx.box.free 2
    have y3 := HQ0.out.bx.box.free 3
    have y4 := HQ0.out.bx.box.free 4
    have y5 := HQ0.out.bx.box.free 5
    have y6 := HQ0.out.bx.box.free 6
    have y7 := HQ0.out.bx.box.free 7
    have y8 := HQ0.out.bx.box.free 8
    have y9 := HQ0.out.bx.box.free 9
    have y10 := HQ0.out.bx.box.free 10
    have xz := HQ0.out.bx.box.lt
    have p1 := (K0.out.on HQ0.out.be).cell (j := 1) rfl
    have p0 := (K0.out.on HQ0.out.be).cell (j := 0) rfl
    have z0 := (K0.out.on HQ0.out.be).lt
    clear hcell hpv
    go_upto_region 13 with fail
    obtain ⟨Y, hY⟩ : ∃ Y, Y = wc.setCells bm 0 (inCs ⟨xs1, xd1, xa1, xz1, xi1, xl1, xp1, xb1, xdu1, xt1, xf1⟩ (.slice A7 n7 c7)) := ⟨_, rfl⟩
    rw [show ((((((((((wc.setCell ⟨bm, 0, none⟩ (.int .u16 (xs1 : Int))).setCell ⟨bm, 1, none⟩ (.int .u16 (xd1 : Int))).setCell ⟨bm, 2, none⟩ (.bool xa1)).setCell ⟨bm, 3, none⟩ (.int .u32 (xz1 : Int))).setCell ⟨bm, 4, none⟩ (.int .u32 (xi1 : Int))).setCell ⟨bm, 5, none⟩ (.int .i64 xl1)).setCell ⟨bm, 6, none⟩ (.slice A7 n7 c7)).setCell ⟨bm, 7, none⟩ (.int .u32 (xb1 : Int))).setCell ⟨bm, 8, none⟩ (.int .i64 xdu1)).setCell ⟨bm, 9, none⟩ (.int .i64 xt1)).setCell ⟨bm, 10, none⟩ (.bool xf1) = Y from hY.symm]
    have HQY := Lib.hid (show QSt ⟨xs1, xd1, xa1, xz1, xi1, xl1, xp1, xb1, xdu1, xt1, xf1⟩ w w3 Y bm (.slice A7 n7 c7) from ⟨by rw [hY]; exact below_puts HQ0.out.lt.1 0 _ HQ0.out.be, by rw [hY]; exact HQ0.out.bx.put _ rfl, by
      rw [hY]
      refine (partsP_below HPV.out (below_puts (b := bm) (B := w.heap.size) (by have := HQ0.out.lt; omega) 0 _ (Below.refl _ _)) fun _ h => h).imp fun _ h => .inl h, HQ0.out.lt⟩)
    clear hY d0 x0 y0 d1 x1 y1 d2 x2 y2 d3 x3 y3 d4 x4 y4 d5 x5 y5 d6 x6 y6 d7 x7 y7 d8 x8 y8 d9 x9 y9 d10 x10 y10 xz hbz p0 p1 z0
    have x2 := HQY.out.bx.box.cell (j := 2) rfl
    have x5 := HQY.out.bx.box.cell (j := 5) rfl
    have xz := HQY.out.bx.box.lt
    have p0 := (K0.out.on HQY.out.be).cell (j := 0) rfl
    have p1 := (K0.out.on HQY.out.be).cell (j := 1) rfl
    have z0 := (K0.out.on HQY.out.be).lt
    have q2 := (K2.out.on HQY.out.be).cell (j := 2) rfl
    have q5 := (K2.out.on HQY.out.be).cell (j := 5) rfl
    have z2 := (K2.out.on HQY.out.be).lt
    have e0 := (K3.out.on HQY.out.be).cell (j := 0) rfl
    have e1 := (K3.out.on HQY.out.be).cell (j := 1) rfl
    have f0 := (K3.out.on HQY.out.be).free 0
    have f1 := (K3.out.on HQY.out.be).free 1
    have z3 := (K3.out.on HQY.out.be).lt
    have HBR := Lib.hid (HB3.out.trans (HQY.out.be.mono HB3.out.size))
    have HK3 := Lib.hid (K3.out.on HQY.out.be)
    dsimp only at x2 x5
    simp only [otherIn] at hoth
    by_cases ha : xa1 = ap
    · have hl : xl1 ≠ (ln : Int) := by
        intro e
        rw [ha, e] at hoth
        simp at hoth
      subst ha
      have qa : (xa1 != xa1) = false := by simp
      have ql : (xl1 != (ln : Int)) = true := ne_bool hl
      clear hoth
      go_wp2_with fail
      refine bodyPost_ret (res_tr3 rfl _ _ (w.heap.size + 1 + 1 + 1) (.slice A1 N c1) (.slice (some ⟨b1, o1, none⟩) M c2) rfl ?_) rfl (HQ.out _ _ _ _ _ (by rw [HR.out]; rfl) ?_ ?_ ?_ ?_)
      · exact HK3.out.put [.slice A1 N c1, .slice (some ⟨b1, o1, none⟩) M c2] rfl
      · exact below_puts (b := (w.heap.size + 1 + 1 + 1)) (by omega) 0 [.slice A1 N c1, .slice (some ⟨b1, o1, none⟩) M c2] HBR.out
      · exact HV.out.on (below_puts (b := (w.heap.size + 1 + 1 + 1)) (by omega) 0 [.slice A1 N c1, .slice (some ⟨b1, o1, none⟩) M c2] HBR.out)
      · rw [HR.out]; exact HU.out.on (below_puts (b := (w.heap.size + 1 + 1 + 1)) (by omega) 0 [.slice A1 N c1, .slice (some ⟨b1, o1, none⟩) M c2] HBR.out)
      · rw [HR.out]; exact ManyV.nil _ _
    · have qa : (xa1 != ap) = true := by simpa using ha
      clear hoth
      go_wp2_with fail
      refine bodyPost_ret (res_tr3 rfl _ _ (w.heap.size + 1 + 1 + 1) (.slice A1 N c1) (.slice (some ⟨b1, o1, none⟩) M c2) rfl ?_) rfl (HQ.out _ _ _ _ _ (by rw [HR.out]; rfl) ?_ ?_ ?_ ?_)
      · exact HK3.out.put [.slice A1 N c1, .slice (some ⟨b1, o1, none⟩) M c2] rfl
      · exact below_puts (b := (w.heap.size + 1 + 1 + 1)) (by omega) 0 [.slice A1 N c1, .slice (some ⟨b1, o1, none⟩) M c2] HBR.out
      · exact HV.out.on (below_puts (b := (w.heap.size + 1 + 1 + 1)) (by omega) 0 [.slice A1 N c1, .slice (some ⟨b1, o1, none⟩) M c2] HBR.out)
      · rw [HR.out]; exact HU.out.on (below_puts (b := (w.heap.size + 1 + 1 + 1)) (by omega) 0 [.slice A1 N c1, .slice (some ⟨b1, o1, none⟩) M c2] HBR.out)
      · rw [HR.out]; exact ManyV.nil _ _
end Go.Proofs.Ytkpjinkkjbljkaa
