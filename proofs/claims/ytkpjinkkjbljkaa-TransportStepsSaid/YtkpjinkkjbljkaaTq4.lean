/- The walk of transport.Receive: segments that are ignored. No condition but the sizes. -/
import Derived.Test.YtkpjinkkjbljkaaTq3
namespace Go.Proofs.Ytkpjinkkjbljkaa
open Go.RowKit

theorem chk_seg {p : Low} {n : Nat} (h : chkL p n = 0) (hc : p.ctl = false) (hs : p.seg = true) : 0 ≤ p.zero ∧ p.zero ≤ 8191 ∧ 0 ≤ p.last ∧ p.last ≤ 31 ∧ 0 ≤ p.idx ∧ p.idx ≤ p.last ∧ 1 ≤ n ∧ n ≤ 12 := by
  unfold chkL chkB at h
  rw [if_neg (by rw [hc]; simp)] at h
  by_cases h1 : restP p n = false
  · rw [if_pos h1] at h; omega
  rw [if_neg h1] at h
  by_cases h2 : p.zero < 0 ∨ 8191 < p.zero ∨ p.last < 0 ∨ 31 < p.last ∨ p.idx < 0 ∨ p.last < p.idx
  · rw [if_pos h2] at h; omega
  rw [if_neg h2] at h
  simp only [hc, hs, Bool.false_eq_true, if_false, true_and, and_self, if_true] at h
  by_cases h3 : p.idx < p.last
  · rw [if_pos h3] at h
    by_cases h4 : (n : Int) < 12
    · rw [if_pos h4] at h; omega
    · rw [if_neg h4] at h
      by_cases h5 : 12 < (n : Int)
      · rw [if_pos h5] at h; omega
      · omega
  · rw [if_neg h3] at h
    by_cases h4 : (n : Int) < 1
    · rw [if_pos h4] at h; omega
    · rw [if_neg h4] at h
      by_cases h5 : 12 < (n : Int)
      · rw [if_pos h5] at h; omega
      · omega
theorem wrap_u32 (x : Int) : IntKind.u32.wrap x = x % 4294967296 := rfl

set_option maxRecDepth 100000 in
set_option maxHeartbeats 8000000 in
theorem recv_old (os : List OutS) (is : List InS) (src dst isrc iv seq : Nat) (ttl : Int) (p : Low) (bl : List UInt8) (now : Int) (hbl : bl.length ≤ 65536) (hseq : seq < 4294967296) (v u bv : Value) (w : World)
    (hv : RowV outCs 10 OutS.parts w w.heap.size v os) (hu : RowV inCs 11 InS.parts w w.heap.size u is) (hbv : BS w w.heap.size bv bl) (ho : Sized (os.map OutS.parts)) (hi : WfIs is) (hok : chkL p bl.length = 0) (hc : p.ctl = false) (hs : p.seg = true) (hback : seq < backN seq p) :
    Calls Try.prog 23 #[.agg #[v, u], .int .u16 (src : Int), .int .u16 (dst : Int), .agg #[.int .u16 (isrc : Int), .int .u32 (iv : Int), .int .u32 (seq : Int)], .int .i64 ttl, lowV p bv, .int .i64 now] w (RecvPost os (recvT is src dst isrc iv seq ttl p bl now) w) := by
  have HR := Lib.hid (show recvT is src dst isrc iv seq ttl p bl now = (is, [], false) from by unfold recvT; rw [if_neg (by rw [hok, hc]; simp), if_neg (by rw [hs]; simp), if_pos hback])
  generalize recvT is src dst isrc iv seq ttl p bl now = r at *
  have HQ := Lib.hid (show ∀ (e : Ending) (w' : World), (Below w.heap.size w w' ∧ ∃ v u x, e = .returned (.tuple #[.agg #[v, u], x, .bool r.2.2]) ∧
    RowV2 outCs 10 OutS.parts w' w.heap.size w'.heap.size v os ∧ RowV2 inCs 11 InS.parts w' w.heap.size w'.heap.size u r.1 ∧ AccsV2 w' w.heap.size w'.heap.size x r.2.1) → RecvPost os r w e w' from fun _ _ h => h)
  generalize RecvPost os r w = Q at *
  obtain ⟨A1, c1, rfl⟩ := rowV_form hv
  obtain ⟨A2, c2, rfl⟩ := rowV_form hu
  obtain ⟨A, c, rfl, _⟩ := id hbv
  have CL := Lib.hid (fun (W : World) (hW : Below w.heap.size w W) => clone_any os is (.slice A1 os.length c1) (.slice A2 is.length c2) W (hv.on hW) (hu.on hW) ho hi.sized)
  have CK := Lib.hid (tcheck_any p A bl.length c)
  have HBV := Lib.hid hbv
  have HWF := Lib.hid hi
  have HBL := Lib.hid hbl
  have HSEQ := Lib.hid hseq
  have HCS := Lib.hid (chk_seg hok hc hs)
  have HBK := Lib.hid hback
  rw [hok] at CK
  clear hok hback
  generalize hN : os.length = N at *
  generalize hM : is.length = M at *
  generalize hn : bl.length = n at *
  have HN := Lib.hid hN
  have HM := Lib.hid hM
  have Hn := Lib.hid hn
  clear hN hM hn hv hu hbv ho hi hbl hseq
  obtain ⟨ct, sg, ap, ze, ix, la, op, bk, fr⟩ := p
  go_enter Try.func23, Try.ntmps23
  go_upto_region 1 with fail
  obtain ⟨W, hW⟩ : ∃ W, W = (((w.alloc (.cells #[.slice A1 N c1, .slice A2 M c2] 47)).alloc (.cells #[.int .u16 (isrc : Int), .int .u32 (iv : Int), .int .u32 (seq : Int)] 41)).alloc (.cells #[.bool ct, .bool sg, .bool ap, .int .i64 ze, .int .i64 ix, .int .i64 la, .int .i64 op, .int .u32 (bk : Int), .bool fr, .slice A n c] 25)).alloc (.cells #[.slice none 0 0, .slice none 0 0] 47) := ⟨_, rfl⟩
  have hA : Below w.heap.size w W := by rw [hW]; exact al4 _ _ _ _ _
  have hb0 : Box W w.heap.size [.slice A1 N c1, .slice A2 M c2] := by rw [hW]; exact (((Box.new _ _ _).alloc _).alloc _).alloc _
  have hb1 : Box W (w.heap.size + 1) [.int .u16 (isrc : Int), .int .u32 (iv : Int), .int .u32 (seq : Int)] := ⟨41, by rw [hW, heap_al, if_neg (by simp), heap_al, if_neg (by simp), heap_al, if_pos (by simp)]⟩
  have hb2 : Box W (w.heap.size + 1 + 1) [.bool ct, .bool sg, .bool ap, .int .i64 ze, .int .i64 ix, .int .i64 la, .int .i64 op, .int .u32 (bk : Int), .bool fr, .slice A n c] := ⟨25, by rw [hW, heap_al, if_neg (by simp), heap_al, if_pos (by simp)]⟩
  have hb3 : Box W (w.heap.size + 1 + 1 + 1) [.slice none 0 0, .slice none 0 0] := ⟨47, by rw [hW, heap_al, if_pos (by simp)]⟩
  rw [← hW]
  clear hW
  have HA := Lib.hid hA
  have H0 := Lib.hid hb0
  have H1 := Lib.hid hb1
  have H2 := Lib.hid hb2
  have H3 := Lib.hid hb3
  have p0 := hb0.cell (j := 0) rfl
  have p1 := hb0.cell (j := 1) rfl
  clear hA hb0 hb1 hb2 hb3
  go_wp2_with fail
  refine (CL.out _ HA.out).mono ?_
  rintro e w2 ⟨hb2, g, h, rfl, hog, hoh⟩
  rw [HN.out] at hog
  rw [HM.out] at hoh
  have HA2 := Lib.hid (HA.out.trans (hb2.mono HA.out.size))
  have H02 := Lib.hid (H0.out.on hb2)
  have H12 := Lib.hid (H1.out.on hb2)
  have H22 := Lib.hid (H2.out.on hb2)
  have H32 := Lib.hid (H3.out.on hb2)
  have HLT := Lib.hid H3.out.lt
  have HOG := Lib.hid hog
  have HOH := Lib.hid hoh
  clear hb2 hog hoh p0 p1 HA H0 H1 H2 H3
  have p0 := H02.out.cell (j := 0) rfl
  have p1 := H02.out.cell (j := 1) rfl
  have f0 := H02.out.free 0
  have f1 := H02.out.free 1
  have z0 := H02.out.lt
  rw [HN.out, HM.out]
  go_upto_region 2 with fail
  obtain ⟨W3, hW3⟩ : ∃ W3, W3 = (w2.setCell ⟨w.heap.size, 0, none⟩ (.slice (some ⟨g, 0, none⟩) N N)).setCell ⟨w.heap.size, 1, none⟩ (.slice (some ⟨h, 0, none⟩) M M) := ⟨_, rfl⟩
  have H03 := Lib.hid (show Box W3 w.heap.size [.slice (some ⟨g, 0, none⟩) N N, .slice (some ⟨h, 0, none⟩) M M] by rw [hW3]; exact H02.out.put [.slice (some ⟨g, 0, none⟩) N N, .slice (some ⟨h, 0, none⟩) M M] rfl)
  have H13 := Lib.hid (show Box W3 (w.heap.size + 1) [.int .u16 (isrc : Int), .int .u32 (iv : Int), .int .u32 (seq : Int)] by rw [hW3]; exact H12.out.puts_far (by omega) 0 [.slice (some ⟨g, 0, none⟩) N N, .slice (some ⟨h, 0, none⟩) M M])
  have H23 := Lib.hid (show Box W3 (w.heap.size + 1 + 1) [.bool ct, .bool sg, .bool ap, .int .i64 ze, .int .i64 ix, .int .i64 la, .int .i64 op, .int .u32 (bk : Int), .bool fr, .slice A n c] by rw [hW3]; exact H22.out.puts_far (by omega) 0 [.slice (some ⟨g, 0, none⟩) N N, .slice (some ⟨h, 0, none⟩) M M])
  have H33 := Lib.hid (show Box W3 (w.heap.size + 1 + 1 + 1) [.slice none 0 0, .slice none 0 0] by rw [hW3]; exact H32.out.puts_far (by omega) 0 [.slice (some ⟨g, 0, none⟩) N N, .slice (some ⟨h, 0, none⟩) M M])
  have HA3 := Lib.hid (show Below w.heap.size w W3 by rw [hW3]; exact below_puts (b := w.heap.size) (Nat.le_refl _) 0 [.slice (some ⟨g, 0, none⟩) N N, .slice (some ⟨h, 0, none⟩) M M] HA2.out)
  have HG3 := Lib.hid (show OwnRow outCs 10 OutS.parts 75 W3 (w.heap.size + 4) (.slice (some ⟨g, 0, none⟩) N N) os by rw [hW3]; exact OwnRow.low (ownRow_far (ownRow_far HOG.out (by have := HLT.out; omega) 0 _) (by have := HLT.out; omega) 1 _) (by have := HLT.out; omega))
  have HH3 := Lib.hid (show OwnRow inCs 11 InS.parts 95 W3 (w.heap.size + 4) (.slice (some ⟨h, 0, none⟩) M M) is by rw [hW3]; exact OwnRow.low (ownRow_far (ownRow_far HOH.out (by have := HLT.out; omega) 0 _) (by have := HLT.out; omega) 1 _) (by have := HLT.out; omega))
  rw [← hW3]
  clear hW3 p0 p1 f0 f1 z0 HA2 H02 H12 H22 H32 HLT HOG HOH CL
  have p0 := H03.out.cell (j := 0) rfl
  have p1 := H03.out.cell (j := 1) rfl
  have z0 := H03.out.lt
  have z1 := H13.out.lt
  have z2 := H23.out.lt
  have z3 := H33.out.lt
  have e0 := H33.out.cell (j := 0) rfl
  have e1 := H33.out.cell (j := 1) rfl
  have f0 := H33.out.free 0
  have f1 := H33.out.free 1
  have q0 := H23.out.cell (j := 0) rfl
  have q1 := H23.out.cell (j := 1) rfl
  have q2 := H23.out.cell (j := 2) rfl
  have q3 := H23.out.cell (j := 3) rfl
  have q4 := H23.out.cell (j := 4) rfl
  have q5 := H23.out.cell (j := 5) rfl
  have q6 := H23.out.cell (j := 6) rfl
  have q7 := H23.out.cell (j := 7) rfl
  have q8 := H23.out.cell (j := 8) rfl
  have q9 := H23.out.cell (j := 9) rfl
  obtain ⟨l1, l2, l3, l4, l5, l6, l7, l8⟩ := HCS.out
  (try dsimp only at l1 l2 l3 l4 l5 l6)
  subst hc hs
  obtain ⟨zn, rfl⟩ := Int.eq_ofNat_of_zero_le l1
  obtain ⟨ln, rfl⟩ := Int.eq_ofNat_of_zero_le l3
  obtain ⟨xn, rfl⟩ := Int.eq_ofNat_of_zero_le l5
  have hseq := HSEQ.out
  have hbk : ((seq : Int) + 8192 - (zn : Int)) % 4294967296 % 8192 = ((backN seq ⟨false, true, ap, (zn : Int), (xn : Int), (ln : Int), op, bk, fr⟩ : Nat) : Int) := by
    unfold backN
    simp only [Int.toNat_natCast]
    omega
  have hbl2 : backN seq ⟨false, true, ap, (zn : Int), (xn : Int), (ln : Int), op, bk, fr⟩ < 8192 := by unfold backN; omega
  generalize backN seq ⟨false, true, ap, (zn : Int), (xn : Int), (ln : Int), op, bk, fr⟩ = bkn at *
  go_wp2_with fail
  refine (CK.out _).mono ?_
  rintro e w4 ⟨rfl, hb4⟩
  have HB4 := Lib.hid hb4
  clear hb4 p0 p1 z0 z1 z2 z3 e0 e1 f0 f1 q0 q1 q2 q3 q4 q5 q6 q7 q8 q9 CK
  have p0 := (H03.out.on HB4.out).cell (j := 0) rfl
  have p1 := (H03.out.on HB4.out).cell (j := 1) rfl
  have z0 := (H03.out.on HB4.out).lt
  have z1 := (H13.out.on HB4.out).lt
  have z2 := (H23.out.on HB4.out).lt
  have z3 := (H33.out.on HB4.out).lt
  have e0 := (H33.out.on HB4.out).cell (j := 0) rfl
  have e1 := (H33.out.on HB4.out).cell (j := 1) rfl
  have f0 := (H33.out.on HB4.out).free 0
  have f1 := (H33.out.on HB4.out).free 1
  have q0 := (H23.out.on HB4.out).cell (j := 0) rfl
  have q1 := (H23.out.on HB4.out).cell (j := 1) rfl
  have q2 := (H23.out.on HB4.out).cell (j := 2) rfl
  have q3 := (H23.out.on HB4.out).cell (j := 3) rfl
  have q4 := (H23.out.on HB4.out).cell (j := 4) rfl
  have q5 := (H23.out.on HB4.out).cell (j := 5) rfl
  have q6 := (H23.out.on HB4.out).cell (j := 6) rfl
  have q7 := (H23.out.on HB4.out).cell (j := 7) rfl
  have q8 := (H23.out.on HB4.out).cell (j := 8) rfl
  have q9 := (H23.out.on HB4.out).cell (j := 9) rfl
  have s1 := (H13.out.on HB4.out).cell (j := 1) rfl
  have s0 := (H13.out.on HB4.out).cell (j := 0) rfl
  have s2 := (H13.out.on HB4.out).cell (j := 2) rfl
  have hdb : decide (seq < bkn) = true := decide_eq_true HBK.out
  go_upto_region 7 with fail
  rw [hbk]
  go_wp2_with fail
  refine bodyPost_ret (res_tr3 rfl _ _ (w.heap.size + 1 + 1 + 1) (.slice (some ⟨g, 0, none⟩) N N) (.slice (some ⟨h, 0, none⟩) M M) rfl ?_) rfl (HQ.out _ _ ⟨?_, _, _, _, by rw [HR.out]; rfl, ?_, ?_, ?_⟩)
  · exact (H33.out.on HB4.out).put [.slice (some ⟨g, 0, none⟩) N N, .slice (some ⟨h, 0, none⟩) M M] rfl
  · exact below_puts (b := w.heap.size + 1 + 1 + 1) (by omega) 0 [.slice (some ⟨g, 0, none⟩) N N, .slice (some ⟨h, 0, none⟩) M M] (HA3.out.trans (HB4.out.mono HA3.out.size))
  · exact (ownRow_far (ownRow_far (HG3.out.on HB4.out) (by omega) 0 _) (by omega) 1 _).upto (by omega)
  · rw [HR.out]; exact (ownRow_far (ownRow_far (HH3.out.on HB4.out) (by omega) 0 _) (by omega) 1 _).upto (by omega)
  · rw [HR.out]; exact ManyV2.nil _ _ _
set_option maxRecDepth 100000 in
set_option maxHeartbeats 8000000 in
theorem recv_not (os : List OutS) (is : List InS) (src dst isrc iv seq : Nat) (ttl : Int) (p : Low) (bl : List UInt8) (now : Int) (hbl : bl.length ≤ 65536) (hseq : seq < 4294967296) (v u bv : Value) (w : World)
    (hv : RowV outCs 10 OutS.parts w w.heap.size v os) (hu : RowV inCs 11 InS.parts w w.heap.size u is) (hbv : BS w w.heap.size bv bl) (ho : Sized (os.map OutS.parts)) (hi : WfIs is) (hok : chkL p bl.length = 0) (hc : p.ctl = false) (hs : p.seg = true) (hback : ¬ seq < backN seq p) (hpl : (placeR is src dst iv (seq - backN seq p) p).2 = false) :
    Calls Try.prog 23 #[.agg #[v, u], .int .u16 (src : Int), .int .u16 (dst : Int), .agg #[.int .u16 (isrc : Int), .int .u32 (iv : Int), .int .u32 (seq : Int)], .int .i64 ttl, lowV p bv, .int .i64 now] w (RecvPost os (recvT is src dst isrc iv seq ttl p bl now) w) := by
  have HR := Lib.hid (show recvT is src dst isrc iv seq ttl p bl now = (is, [], false) from by unfold recvT; rw [if_neg (by rw [hok, hc]; simp), if_neg (by rw [hs]; simp), if_neg hback, if_pos hpl])
  generalize recvT is src dst isrc iv seq ttl p bl now = r at *
  have HQ := Lib.hid (show ∀ (e : Ending) (w' : World), (Below w.heap.size w w' ∧ ∃ v u x, e = .returned (.tuple #[.agg #[v, u], x, .bool r.2.2]) ∧
    RowV2 outCs 10 OutS.parts w' w.heap.size w'.heap.size v os ∧ RowV2 inCs 11 InS.parts w' w.heap.size w'.heap.size u r.1 ∧ AccsV2 w' w.heap.size w'.heap.size x r.2.1) → RecvPost os r w e w' from fun _ _ h => h)
  generalize RecvPost os r w = Q at *
  obtain ⟨A1, c1, rfl⟩ := rowV_form hv
  obtain ⟨A2, c2, rfl⟩ := rowV_form hu
  obtain ⟨A, c, rfl, _⟩ := id hbv
  have CL := Lib.hid (fun (W : World) (hW : Below w.heap.size w W) => clone_any os is (.slice A1 os.length c1) (.slice A2 is.length c2) W (hv.on hW) (hu.on hW) ho hi.sized)
  have CK := Lib.hid (tcheck_any p A bl.length c)
  have HBV := Lib.hid hbv
  have HWF := Lib.hid hi
  have HBL := Lib.hid hbl
  have HSEQ := Lib.hid hseq
  have HCS := Lib.hid (chk_seg hok hc hs)
  have HBK := Lib.hid hback
  have CP := Lib.hid (fun A1 n1 c1 u W hu => place_any is src dst iv (seq - backN seq p) p (.slice A1 n1 c1) u A bl.length c W ⟨_, _, _, rfl⟩ hu (by have := hi.1; omega))
  rw [hpl] at CP
  generalize (placeR is src dst iv (seq - backN seq p) p).1 = at1 at *
  rw [hok] at CK
  clear hok hback hpl
  generalize hN : os.length = N at *
  generalize hM : is.length = M at *
  generalize hn : bl.length = n at *
  have HN := Lib.hid hN
  have HM := Lib.hid hM
  have Hn := Lib.hid hn
  clear hN hM hn hv hu hbv ho hi hbl hseq
  obtain ⟨ct, sg, ap, ze, ix, la, op, bk, fr⟩ := p
  go_enter Try.func23, Try.ntmps23
  go_upto_region 1 with fail
  obtain ⟨W, hW⟩ : ∃ W, W = (((w.alloc (.cells #[.slice A1 N c1, .slice A2 M c2] 47)).alloc (.cells #[.int .u16 (isrc : Int), .int .u32 (iv : Int), .int .u32 (seq : Int)] 41)).alloc (.cells #[.bool ct, .bool sg, .bool ap, .int .i64 ze, .int .i64 ix, .int .i64 la, .int .i64 op, .int .u32 (bk : Int), .bool fr, .slice A n c] 25)).alloc (.cells #[.slice none 0 0, .slice none 0 0] 47) := ⟨_, rfl⟩
  have hA : Below w.heap.size w W := by rw [hW]; exact al4 _ _ _ _ _
  have hb0 : Box W w.heap.size [.slice A1 N c1, .slice A2 M c2] := by rw [hW]; exact (((Box.new _ _ _).alloc _).alloc _).alloc _
  have hb1 : Box W (w.heap.size + 1) [.int .u16 (isrc : Int), .int .u32 (iv : Int), .int .u32 (seq : Int)] := ⟨41, by rw [hW, heap_al, if_neg (by simp), heap_al, if_neg (by simp), heap_al, if_pos (by simp)]⟩
  have hb2 : Box W (w.heap.size + 1 + 1) [.bool ct, .bool sg, .bool ap, .int .i64 ze, .int .i64 ix, .int .i64 la, .int .i64 op, .int .u32 (bk : Int), .bool fr, .slice A n c] := ⟨25, by rw [hW, heap_al, if_neg (by simp), heap_al, if_pos (by simp)]⟩
  have hb3 : Box W (w.heap.size + 1 + 1 + 1) [.slice none 0 0, .slice none 0 0] := ⟨47, by rw [hW, heap_al, if_pos (by simp)]⟩
  rw [← hW]
  clear hW
  have HA := Lib.hid hA
  have H0 := Lib.hid hb0
  have H1 := Lib.hid hb1
  have H2 := Lib.hid hb2
  have H3 := Lib.hid hb3
  have p0 := hb0.cell (j := 0) rfl
  have p1 := hb0.cell (j := 1) rfl
  clear hA hb0 hb1 hb2 hb3
  go_wp2_with fail
  refine (CL.out _ HA.out).mono ?_
  rintro e w2 ⟨hb2, g, h, rfl, hog, hoh⟩
  rw [HN.out] at hog
  rw [HM.out] at hoh
  have HA2 := Lib.hid (HA.out.trans (hb2.mono HA.out.size))
  have H02 := Lib.hid (H0.out.on hb2)
  have H12 := Lib.hid (H1.out.on hb2)
  have H22 := Lib.hid (H2.out.on hb2)
  have H32 := Lib.hid (H3.out.on hb2)
  have HLT := Lib.hid H3.out.lt
  have HOG := Lib.hid hog
  have HOH := Lib.hid hoh
  clear hb2 hog hoh p0 p1 HA H0 H1 H2 H3
  have p0 := H02.out.cell (j := 0) rfl
  have p1 := H02.out.cell (j := 1) rfl
  have f0 := H02.out.free 0
  have f1 := H02.out.free 1
  have z0 := H02.out.lt
  rw [HN.out, HM.out]
  go_upto_region 2 with fail
  obtain ⟨W3, hW3⟩ : ∃ W3, W3 = (w2.setCell ⟨w.heap.size, 0, none⟩ (.slice (some ⟨g, 0, none⟩) N N)).setCell ⟨w.heap.size, 1, none⟩ (.slice (some ⟨h, 0, none⟩) M M) := ⟨_, rfl⟩
  have H03 := Lib.hid (show Box W3 w.heap.size [.slice (some ⟨g, 0, none⟩) N N, .slice (some ⟨h, 0, none⟩) M M] by rw [hW3]; exact H02.out.put [.slice (some ⟨g, 0, none⟩) N N, .slice (some ⟨h, 0, none⟩) M M] rfl)
  have H13 := Lib.hid (show Box W3 (w.heap.size + 1) [.int .u16 (isrc : Int), .int .u32 (iv : Int), .int .u32 (seq : Int)] by rw [hW3]; exact H12.out.puts_far (by omega) 0 [.slice (some ⟨g, 0, none⟩) N N, .slice (some ⟨h, 0, none⟩) M M])
  have H23 := Lib.hid (show Box W3 (w.heap.size + 1 + 1) [.bool ct, .bool sg, .bool ap, .int .i64 ze, .int .i64 ix, .int .i64 la, .int .i64 op, .int .u32 (bk : Int), .bool fr, .slice A n c] by rw [hW3]; exact H22.out.puts_far (by omega) 0 [.slice (some ⟨g, 0, none⟩) N N, .slice (some ⟨h, 0, none⟩) M M])
  have H33 := Lib.hid (show Box W3 (w.heap.size + 1 + 1 + 1) [.slice none 0 0, .slice none 0 0] by rw [hW3]; exact H32.out.puts_far (by omega) 0 [.slice (some ⟨g, 0, none⟩) N N, .slice (some ⟨h, 0, none⟩) M M])
  have HA3 := Lib.hid (show Below w.heap.size w W3 by rw [hW3]; exact below_puts (b := w.heap.size) (Nat.le_refl _) 0 [.slice (some ⟨g, 0, none⟩) N N, .slice (some ⟨h, 0, none⟩) M M] HA2.out)
  have HG3 := Lib.hid (show OwnRow outCs 10 OutS.parts 75 W3 (w.heap.size + 4) (.slice (some ⟨g, 0, none⟩) N N) os by rw [hW3]; exact OwnRow.low (ownRow_far (ownRow_far HOG.out (by have := HLT.out; omega) 0 _) (by have := HLT.out; omega) 1 _) (by have := HLT.out; omega))
  have HH3 := Lib.hid (show OwnRow inCs 11 InS.parts 95 W3 (w.heap.size + 4) (.slice (some ⟨h, 0, none⟩) M M) is by rw [hW3]; exact OwnRow.low (ownRow_far (ownRow_far HOH.out (by have := HLT.out; omega) 0 _) (by have := HLT.out; omega) 1 _) (by have := HLT.out; omega))
  rw [← hW3]
  clear hW3 p0 p1 f0 f1 z0 HA2 H02 H12 H22 H32 HLT HOG HOH CL
  have p0 := H03.out.cell (j := 0) rfl
  have p1 := H03.out.cell (j := 1) rfl
  have z0 := H03.out.lt
  have z1 := H13.out.lt
  have z2 := H23.out.lt
  have z3 := H33.out.lt
  have e0 := H33.out.cell (j := 0) rfl
  have e1 := H33.out.cell (j := 1) rfl
  have f0 := H33.out.free 0
  have f1 := H33.out.free 1
  have q0 := H23.out.cell (j := 0) rfl
  have q1 := H23.out.cell (j := 1) rfl
  have q2 := H23.out.cell (j := 2) rfl
  have q3 := H23.out.cell (j := 3) rfl
  have q4 := H23.out.cell (j := 4) rfl
  have q5 := H23.out.cell (j := 5) rfl
  have q6 := H23.out.cell (j := 6) rfl
  have q7 := H23.out.cell (j := 7) rfl
  have q8 := H23.out.cell (j := 8) rfl
  have q9 := H23.out.cell (j := 9) rfl
  obtain ⟨l1, l2, l3, l4, l5, l6, l7, l8⟩ := HCS.out
  (try dsimp only at l1 l2 l3 l4 l5 l6)
  subst hc hs
  obtain ⟨zn, rfl⟩ := Int.eq_ofNat_of_zero_le l1
  obtain ⟨ln, rfl⟩ := Int.eq_ofNat_of_zero_le l3
  obtain ⟨xn, rfl⟩ := Int.eq_ofNat_of_zero_le l5
  have hseq := HSEQ.out
  have hbk : ((seq : Int) + 8192 - (zn : Int)) % 4294967296 % 8192 = ((backN seq ⟨false, true, ap, (zn : Int), (xn : Int), (ln : Int), op, bk, fr⟩ : Nat) : Int) := by
    unfold backN
    simp only [Int.toNat_natCast]
    omega
  have hbl2 : backN seq ⟨false, true, ap, (zn : Int), (xn : Int), (ln : Int), op, bk, fr⟩ < 8192 := by unfold backN; omega
  generalize backN seq ⟨false, true, ap, (zn : Int), (xn : Int), (ln : Int), op, bk, fr⟩ = bkn at *
  go_wp2_with fail
  refine (CK.out _).mono ?_
  rintro e w4 ⟨rfl, hb4⟩
  have HB4 := Lib.hid hb4
  clear hb4 p0 p1 z0 z1 z2 z3 e0 e1 f0 f1 q0 q1 q2 q3 q4 q5 q6 q7 q8 q9 CK
  have p0 := (H03.out.on HB4.out).cell (j := 0) rfl
  have p1 := (H03.out.on HB4.out).cell (j := 1) rfl
  have z0 := (H03.out.on HB4.out).lt
  have z1 := (H13.out.on HB4.out).lt
  have z2 := (H23.out.on HB4.out).lt
  have z3 := (H33.out.on HB4.out).lt
  have e0 := (H33.out.on HB4.out).cell (j := 0) rfl
  have e1 := (H33.out.on HB4.out).cell (j := 1) rfl
  have f0 := (H33.out.on HB4.out).free 0
  have f1 := (H33.out.on HB4.out).free 1
  have q0 := (H23.out.on HB4.out).cell (j := 0) rfl
  have q1 := (H23.out.on HB4.out).cell (j := 1) rfl
  have q2 := (H23.out.on HB4.out).cell (j := 2) rfl
  have q3 := (H23.out.on HB4.out).cell (j := 3) rfl
  have q4 := (H23.out.on HB4.out).cell (j := 4) rfl
  have q5 := (H23.out.on HB4.out).cell (j := 5) rfl
  have q6 := (H23.out.on HB4.out).cell (j := 6) rfl
  have q7 := (H23.out.on HB4.out).cell (j := 7) rfl
  have q8 := (H23.out.on HB4.out).cell (j := 8) rfl
  have q9 := (H23.out.on HB4.out).cell (j := 9) rfl
  have s1 := (H13.out.on HB4.out).cell (j := 1) rfl
  have s0 := (H13.out.on HB4.out).cell (j := 0) rfl
  have s2 := (H13.out.on HB4.out).cell (j := 2) rfl
  have hdb : decide (seq < bkn) = false := decide_eq_false HBK.out
  go_upto_region 7 with fail
  rw [hbk]
  go_upto_region 10 with fail
  have hzz : ((seq : Int) - (bkn : Int)) % 4294967296 = ((seq - bkn : Nat) : Int) := by have := HBK.out; omega
  rw [hzz]
  generalize hz : seq - bkn = zz at *
  clear hzz
  have hRI := (HH3.out.on HB4.out).reads
  go_wp2_with fail
  refine (CP.out _ _ _ _ w4 hRI).mono ?_
  rintro e w5 ⟨rfl, hb5⟩
  clear hRI
  have HB5 := Lib.hid (bthen HB4.out hb5)
  clear hb5 p0 p1 z0 z1 z2 z3 e0 e1 f0 f1 q0 q1 q2 q3 q4 q5 q6 q7 q8 q9 s0 s1 s2 CP
  have p0 := (H03.out.on HB5.out).cell (j := 0) rfl
  have p1 := (H03.out.on HB5.out).cell (j := 1) rfl
  have z0 := (H03.out.on HB5.out).lt
  have z3 := (H33.out.on HB5.out).lt
  have e0 := (H33.out.on HB5.out).cell (j := 0) rfl
  have e1 := (H33.out.on HB5.out).cell (j := 1) rfl
  have f0 := (H33.out.on HB5.out).free 0
  have f1 := (H33.out.on HB5.out).free 1
  go_wp2_with fail
  refine bodyPost_ret (res_tr3 rfl _ _ (w.heap.size + 1 + 1 + 1) (.slice (some ⟨g, 0, none⟩) N N) (.slice (some ⟨h, 0, none⟩) M M) rfl ?_) rfl (HQ.out _ _ ⟨?_, _, _, _, by rw [HR.out]; rfl, ?_, ?_, ?_⟩)
  · exact (H33.out.on HB5.out).put [.slice (some ⟨g, 0, none⟩) N N, .slice (some ⟨h, 0, none⟩) M M] rfl
  · exact below_puts (b := w.heap.size + 1 + 1 + 1) (by omega) 0 [.slice (some ⟨g, 0, none⟩) N N, .slice (some ⟨h, 0, none⟩) M M] (HA3.out.trans (HB5.out.mono HA3.out.size))
  · exact (ownRow_far (ownRow_far (HG3.out.on HB5.out) (by omega) 0 _) (by omega) 1 _).upto (by omega)
  · rw [HR.out]; exact (ownRow_far (ownRow_far (HH3.out.on HB5.out) (by omega) 0 _) (by omega) 1 _).upto (by omega)
  · rw [HR.out]; exact ManyV2.nil _ _ _
end Go.Proofs.Ytkpjinkkjbljkaa
