/- The walk of transport.Receive: segments that count. No condition but the sizes. -/
import Derived.Test.YtkpjinkkjbljkaaTq5
import Derived.Deep.RegionHeld3
import Derived.Deep.DeepCutAuto
namespace Go.Proofs.Ytkpjinkkjbljkaa
open Go.RowKit

set_option maxRecDepth 100000 in
set_option maxHeartbeats 40000000 in
theorem recv_seg (os : List OutS) (is : List InS) (src dst isrc iv seq : Nat) (ttl : Int) (p : Low) (bl : List UInt8) (now : Int) (hbl : bl.length ≤ 65536) (hseq : seq < 4294967296) (v u bv : Value) (w : World)
    (hv : RowV outCs 10 OutS.parts w w.heap.size v os) (hu : RowV inCs 11 InS.parts w w.heap.size u is) (hbv : BS w w.heap.size bv bl) (ho : Sized (os.map OutS.parts)) (hi : WfIs is) (hnow : 0 ≤ now) (hnow2 : now ≤ 4611686018427387904) (hok : chkL p bl.length = 0) (hc : p.ctl = false) (hs : p.seg = true) (hback : ¬ seq < backN seq p) (hpl : (placeR is src dst iv (seq - backN seq p) p).2 = true) :
    Calls Try.prog 23 #[.agg #[v, u], .int .u16 (src : Int), .int .u16 (dst : Int), .agg #[.int .u16 (isrc : Int), .int .u32 (iv : Int), .int .u32 (seq : Int)], .int .i64 ttl, lowV p bv, .int .i64 now] w (RecvPost os (recvT is src dst isrc iv seq ttl p bl now) w) := by
  have HR := Lib.hid (show recvT is src dst isrc iv seq ttl p bl now = (keep8 ((pickIn is src dst (seq - backN seq p) iv p).2 ++ [ackIn (midIn (pickIn is src dst (seq - backN seq p) iv p).1 p.idx.toNat bl ttl now (isNode dst)).1 (isNode dst) now]), gotIn src dst iv (seq - backN seq p) (pickIn is src dst (seq - backN seq p) iv p).1 p.idx.toNat bl ttl now (isNode dst), (midIn (pickIn is src dst (seq - backN seq p) iv p).1 p.idx.toNat bl ttl now (isNode dst)).1.fin && isNode dst) from by unfold recvT; rw [if_neg (by rw [hok, hc]; simp), if_neg (by rw [hs]; simp), if_neg hback, if_neg (by rw [hpl]; simp)])
  generalize recvT is src dst isrc iv seq ttl p bl now = r at *
  have HQ := Lib.hid (show ∀ (e : Ending) (w' : World), (Below w.heap.size w w' ∧ ∃ v u x, e = .returned (.tuple #[.agg #[v, u], x, .bool r.2.2]) ∧
    RowV2 outCs 10 OutS.parts w' w.heap.size w'.heap.size v os ∧ RowV2 inCs 11 InS.parts w' w.heap.size w'.heap.size u r.1 ∧ AccsV2 w' w.heap.size w'.heap.size x r.2.1) → RecvPost os r w e w' from fun _ _ h => h)
  generalize RecvPost os r w = Q at *
  obtain ⟨A1, c1, rfl⟩ := rowV_form hv
  obtain ⟨A2, c2, rfl⟩ := rowV_form hu
  obtain ⟨A, c, rfl, _⟩ := id hbv
  have CL := Lib.hid (fun (W : World) (hW : Below w.heap.size w W) => clone_any2 os is (.slice A1 os.length c1) (.slice A2 is.length c2) W (hv.on hW) (hu.on hW) ho hi.sized)
  have CK := Lib.hid (tcheck_any p A bl.length c)
  have HBV := Lib.hid hbv
  have HWF := Lib.hid hi
  have HBL := Lib.hid hbl
  have HSEQ := Lib.hid hseq
  have HCS := Lib.hid (chk_seg hok hc hs)
  have HBK := Lib.hid hback
  have CP := Lib.hid (fun A1 n1 c1 u W hu => place_any is src dst iv (seq - backN seq p) p (.slice A1 n1 c1) u A bl.length c W ⟨_, _, _, rfl⟩ hu (by have := hi.1; omega))
  have HPK := Lib.hid (pick_place hpl)
  rw [hpl] at CP
  generalize (placeR is src dst iv (seq - backN seq p) p).1 = at1 at *
  generalize hpi : pickIn is src dst (seq - backN seq p) iv p = pk at *
  obtain ⟨x1, js1⟩ := pk
  dsimp only at HR
  rw [hok] at CK
  have CN := Lib.hid (node_any dst)
  generalize isNode dst = nd at *
  clear hok hback hpl hpi
  generalize hN : os.length = N at *
  generalize hM : is.length = M at *
  generalize hn : bl.length = n at *
  have HN := Lib.hid hN
  have HM := Lib.hid hM
  have Hn := Lib.hid hn
  clear hN hM hn hv hu hbv ho hi hbl hseq
  obtain ⟨ct, sg, ap, ze, ix, la, op, bk, fr⟩ := p
  go_enter Try.func23, Try.ntmps23
  go_upto_region 1 with fail
  obtain ⟨W, hW⟩ : ∃ W, W = (((w.alloc (.cells #[.slice A1 N c1, .slice A2 M c2] 47)).alloc (.cells #[.int .u16 (isrc : Int), .int .u32 (iv : Int), .int .u32 (seq : Int)] 41)).alloc (.cells #[.bool ct, .bool sg, .bool ap, .int .i64 ze, .int .i64 ix, .int .i64 la, .int .i64 op, .int .u32 (bk : Int), .bool fr, .slice A n c] 25)).alloc (.cells #[.slice none 0 0, .slice none 0 0] 47) := ⟨_, rfl⟩
  have hA : Below w.heap.size w W := by rw [hW]; exact al4 _ _ _ _ _
  have hb0 : Box W w.heap.size [.slice A1 N c1, .slice A2 M c2] := by rw [hW]; exact (((Box.new _ _ _).alloc _).alloc _).alloc _
  have hb1 : Box W (w.heap.size + 1) [.int .u16 (isrc : Int), .int .u32 (iv : Int), .int .u32 (seq : Int)] := ⟨41, by rw [hW, heap_al, if_neg (by simp), heap_al, if_neg (by simp), heap_al, if_pos (by simp)]⟩
  have hb2 : Box W (w.heap.size + 1 + 1) [.bool ct, .bool sg, .bool ap, .int .i64 ze, .int .i64 ix, .int .i64 la, .int .i64 op, .int .u32 (bk : Int), .bool fr, .slice A n c] := ⟨25, by rw [hW, heap_al, if_neg (by simp), heap_al, if_pos (by simp)]⟩
  have hb3 : Box W (w.heap.size + 1 + 1 + 1) [.slice none 0 0, .slice none 0 0] := ⟨47, by rw [hW, heap_al, if_pos (by simp)]⟩
  rw [← hW]
  clear hW
  have HA := Lib.hid hA
  have H0 := Lib.hid hb0
  have H1 := Lib.hid hb1
  have H2 := Lib.hid hb2
  have H3 := Lib.hid hb3
  have p0 := hb0.cell (j := 0) rfl
  have p1 := hb0.cell (j := 1) rfl
  clear hA hb0 hb1 hb2 hb3
  go_wp2_with fail
  refine (CL.out _ HA.out).mono ?_
  rintro e w2 ⟨hb2, g, h, xs, ys, rfl, hog, hom, hoh, him, hcr⟩
  rw [HN.out] at hog
  rw [HM.out] at hoh
  have HOM := Lib.hid hom
  have HIM := Lib.hid him
  have HCR := Lib.hid hcr
  clear hom him hcr
  have HA2 := Lib.hid (HA.out.trans (hb2.mono HA.out.size))
  have H02 := Lib.hid (H0.out.on hb2)
  have H12 := Lib.hid (H1.out.on hb2)
  have H22 := Lib.hid (H2.out.on hb2)
  have H32 := Lib.hid (H3.out.on hb2)
  have HLT := Lib.hid H3.out.lt
  have HOG := Lib.hid hog
  have HOH := Lib.hid hoh
  clear hb2 hog hoh p0 p1 HA H0 H1 H2 H3
  have p0 := H02.out.cell (j := 0) rfl
  have p1 := H02.out.cell (j := 1) rfl
  have f0 := H02.out.free 0
  have f1 := H02.out.free 1
  have z0 := H02.out.lt
  rw [HN.out, HM.out]
  go_upto_region 2 with fail
  obtain ⟨W3, hW3⟩ : ∃ W3, W3 = (w2.setCell ⟨w.heap.size, 0, none⟩ (.slice (some ⟨g, 0, none⟩) N N)).setCell ⟨w.heap.size, 1, none⟩ (.slice (some ⟨h, 0, none⟩) M M) := ⟨_, rfl⟩
  have H03 := Lib.hid (show Box W3 w.heap.size [.slice (some ⟨g, 0, none⟩) N N, .slice (some ⟨h, 0, none⟩) M M] by rw [hW3]; exact H02.out.put [.slice (some ⟨g, 0, none⟩) N N, .slice (some ⟨h, 0, none⟩) M M] rfl)
  have H13 := Lib.hid (show Box W3 (w.heap.size + 1) [.int .u16 (isrc : Int), .int .u32 (iv : Int), .int .u32 (seq : Int)] by rw [hW3]; exact H12.out.puts_far (by omega) 0 [.slice (some ⟨g, 0, none⟩) N N, .slice (some ⟨h, 0, none⟩) M M])
  have H23 := Lib.hid (show Box W3 (w.heap.size + 1 + 1) [.bool ct, .bool sg, .bool ap, .int .i64 ze, .int .i64 ix, .int .i64 la, .int .i64 op, .int .u32 (bk : Int), .bool fr, .slice A n c] by rw [hW3]; exact H22.out.puts_far (by omega) 0 [.slice (some ⟨g, 0, none⟩) N N, .slice (some ⟨h, 0, none⟩) M M])
  have H33 := Lib.hid (show Box W3 (w.heap.size + 1 + 1 + 1) [.slice none 0 0, .slice none 0 0] by rw [hW3]; exact H32.out.puts_far (by omega) 0 [.slice (some ⟨g, 0, none⟩) N N, .slice (some ⟨h, 0, none⟩) M M])
  have HA3 := Lib.hid (show Below w.heap.size w W3 by rw [hW3]; exact below_puts (b := w.heap.size) (Nat.le_refl _) 0 [.slice (some ⟨g, 0, none⟩) N N, .slice (some ⟨h, 0, none⟩) M M] HA2.out)
  have HG3 := Lib.hid (show W3.ownsRow (w.heap.size + 4) 75 10 (.slice (some ⟨g, 0, none⟩) N N) N (flat2 outCs os xs) by rw [hW3]; exact own_base (own_far (own_far HOG.out (by have := HLT.out; omega) 0 _) (by have := HLT.out; omega) 1 _) (by have := HLT.out; omega))
  have HH3 := Lib.hid (show W3.ownsRow (w.heap.size + 4) 95 11 (.slice (some ⟨h, 0, none⟩) M M) M (flat2 inCs is ys) by rw [hW3]; exact own_base (own_far (own_far HOH.out (by have := HLT.out; omega) 0 _) (by have := HLT.out; omega) 1 _) (by have := HLT.out; omega))
  have HOM3 := Lib.hid (show OwnMany OutS.parts W3 (w.heap.size + 4) os xs by rw [hW3]; exact OwnMany.low (OwnMany.far (OwnMany.far HOM.out (by have := HLT.out; omega) 0 _) (by have := HLT.out; omega) 1 _) (by have := HLT.out; omega))
  have HIM3 := Lib.hid (show OwnMany InS.parts W3 (w.heap.size + 4) is ys by rw [hW3]; exact OwnMany.low (OwnMany.far (OwnMany.far HIM.out (by have := HLT.out; omega) 0 _) (by have := HLT.out; omega) 1 _) (by have := HLT.out; omega))
  rw [← hW3]
  clear hW3 p0 p1 f0 f1 z0 HA2 H02 H12 H22 H32 HLT HOG HOH HOM HIM CL
  have p0 := H03.out.cell (j := 0) rfl
  have p1 := H03.out.cell (j := 1) rfl
  have z0 := H03.out.lt
  have z1 := H13.out.lt
  have z2 := H23.out.lt
  have z3 := H33.out.lt
  have e0 := H33.out.cell (j := 0) rfl
  have e1 := H33.out.cell (j := 1) rfl
  have f0 := H33.out.free 0
  have f1 := H33.out.free 1
  have q0 := H23.out.cell (j := 0) rfl
  have q1 := H23.out.cell (j := 1) rfl
  have q2 := H23.out.cell (j := 2) rfl
  have q3 := H23.out.cell (j := 3) rfl
  have q4 := H23.out.cell (j := 4) rfl
  have q5 := H23.out.cell (j := 5) rfl
  have q6 := H23.out.cell (j := 6) rfl
  have q7 := H23.out.cell (j := 7) rfl
  have q8 := H23.out.cell (j := 8) rfl
  have q9 := H23.out.cell (j := 9) rfl
  obtain ⟨l1, l2, l3, l4, l5, l6, l7, l8⟩ := HCS.out
  (try dsimp only at l1 l2 l3 l4 l5 l6)
  subst hc hs
  obtain ⟨zn, rfl⟩ := Int.eq_ofNat_of_zero_le l1
  obtain ⟨ln, rfl⟩ := Int.eq_ofNat_of_zero_le l3
  obtain ⟨xn, rfl⟩ := Int.eq_ofNat_of_zero_le l5
  have hseq := HSEQ.out
  have hbk : ((seq : Int) + 8192 - (zn : Int)) % 4294967296 % 8192 = ((backN seq ⟨false, true, ap, (zn : Int), (xn : Int), (ln : Int), op, bk, fr⟩ : Nat) : Int) := by
    unfold backN
    simp only [Int.toNat_natCast]
    omega
  have hbl2 : backN seq ⟨false, true, ap, (zn : Int), (xn : Int), (ln : Int), op, bk, fr⟩ < 8192 := by unfold backN; omega
  generalize backN seq ⟨false, true, ap, (zn : Int), (xn : Int), (ln : Int), op, bk, fr⟩ = bkn at *
  go_wp2_with fail
  refine (CK.out _).mono ?_
  rintro e w4 ⟨rfl, hb4⟩
  have HB4 := Lib.hid hb4
  clear hb4 p0 p1 z0 z1 z2 z3 e0 e1 f0 f1 q0 q1 q2 q3 q4 q5 q6 q7 q8 q9 CK
  have p0 := (H03.out.on HB4.out).cell (j := 0) rfl
  have p1 := (H03.out.on HB4.out).cell (j := 1) rfl
  have z0 := (H03.out.on HB4.out).lt
  have z1 := (H13.out.on HB4.out).lt
  have z2 := (H23.out.on HB4.out).lt
  have z3 := (H33.out.on HB4.out).lt
  have e0 := (H33.out.on HB4.out).cell (j := 0) rfl
  have e1 := (H33.out.on HB4.out).cell (j := 1) rfl
  have f0 := (H33.out.on HB4.out).free 0
  have f1 := (H33.out.on HB4.out).free 1
  have q0 := (H23.out.on HB4.out).cell (j := 0) rfl
  have q1 := (H23.out.on HB4.out).cell (j := 1) rfl
  have q2 := (H23.out.on HB4.out).cell (j := 2) rfl
  have q3 := (H23.out.on HB4.out).cell (j := 3) rfl
  have q4 := (H23.out.on HB4.out).cell (j := 4) rfl
  have q5 := (H23.out.on HB4.out).cell (j := 5) rfl
  have q6 := (H23.out.on HB4.out).cell (j := 6) rfl
  have q7 := (H23.out.on HB4.out).cell (j := 7) rfl
  have q8 := (H23.out.on HB4.out).cell (j := 8) rfl
  have q9 := (H23.out.on HB4.out).cell (j := 9) rfl
  have s1 := (H13.out.on HB4.out).cell (j := 1) rfl
  have s0 := (H13.out.on HB4.out).cell (j := 0) rfl
  have s2 := (H13.out.on HB4.out).cell (j := 2) rfl
  have hdb : decide (seq < bkn) = false := decide_eq_false HBK.out
  go_upto_region 7 with fail
  rw [hbk]
  go_upto_region 10 with fail
  have hzz : ((seq : Int) - (bkn : Int)) % 4294967296 = ((seq - bkn : Nat) : Int) := by have := HBK.out; omega
  rw [hzz]
  generalize hz : seq - bkn = zz at *
  clear hzz
  have hRI : RowV inCs 11 InS.parts w4 w4.heap.size (.slice (some ⟨h, 0, none⟩) M M) is := OwnRow.reads ⟨ys, by rw [HM.out]; exact own_on HH3.out HB4.out, HIM3.out.on HB4.out⟩
  go_wp2_with fail
  refine (CP.out _ _ _ _ w4 hRI).mono ?_
  rintro e w5 ⟨rfl, hb5⟩
  clear hRI
  have HB5 := Lib.hid (bthen HB4.out hb5)
  clear hb5 p0 p1 z0 z1 z2 z3 e0 e1 f0 f1 q0 q1 q2 q3 q4 q5 q6 q7 q8 q9 s0 s1 s2 CP HB4
  have H05 := Lib.hid (H03.out.on HB5.out)
  have H15 := Lib.hid (H13.out.on HB5.out)
  have H25 := Lib.hid (H23.out.on HB5.out)
  have H35 := Lib.hid (H33.out.on HB5.out)
  have HG5 := Lib.hid (own_on HG3.out HB5.out)
  have HH5 := Lib.hid (own_on HH3.out HB5.out)
  have HO5 := Lib.hid (HOM3.out.on HB5.out)
  have HI5 := Lib.hid (HIM3.out.on HB5.out)
  have HA5 := Lib.hid (HA3.out.trans (HB5.out.mono HA3.out.size))
  clear H03 H13 H23 H33 HG3 HH3 HOM3 HIM3 HA3 HB5
  have z3 := H35.out.lt
  have z2 := H25.out.lt
  have z1 := H15.out.lt
  have q2 := H25.out.cell (j := 2) rfl
  have q5 := H25.out.cell (j := 5) rfl
  have s1 := H15.out.cell (j := 1) rfl
  obtain ⟨cur, hcur, mk⟩ := make_parts (ln + 1) (by omega)
  have mk2 : ∀ W : World, (Instr.makeSlice 73 (.int .i64 ((ln : Int) + 1)) (.int .i64 ((ln : Int) + 1))).run Try.prog W = .ok (.slice (some ⟨W.heap.size, 0, none⟩) (ln + 1) (ln + 1)) (W.alloc (.cells cur 23)) := mk
  have HCUR := Lib.hid hcur
  clear mk hcur
  go_upto_region 13 with fail
  go_cut [21] from 23 to 93 (fun t21 wx => ∃ (bm bp : Nat), t21 = .pointer (some ⟨bm, 0, none⟩) ∧ RSt os is (newIn src dst zz iv ⟨false, true, ap, (zn : Int), (xn : Int), (ln : Int), op, bk, fr⟩) w wx g N (.slice (some ⟨h, 0, none⟩) M M) (.slice (some ⟨bp, 0, none⟩) (ln + 1) (ln + 1)) bm [.int .u16 (isrc : Int), .int .u32 (iv : Int), .int .u32 (seq : Int)] [.bool false, .bool true, .bool ap, .int .i64 (zn : Int), .int .i64 (xn : Int), .int .i64 (ln : Int), .int .i64 op, .int .u32 (bk : Int), .bool fr, .slice A n c] ys xs)
  case first =>
    have hwl : IntKind.i64.wrap ((ln : Int) + 1) = (ln : Int) + 1 := IntWalk.i64_in _ (by omega)
    go_region_held3 (fun w' => w'.cell? ⟨w.heap.size + 1, 1, none⟩ = some (.int .u32 (iv : Int)) ∧ w'.cell? ⟨w.heap.size + 1 + 1, 2, none⟩ = some (.bool ap) ∧ w'.cell? ⟨w.heap.size + 1 + 1, 5, none⟩ = some (.int .i64 (ln : Int))) (go_keep) (fail)
    all_goals
      clear mk2 hwl q2 q5 s1
      go_wp2_with fail
      go_meet
    all_goals
      first
        | (refine ⟨w5.heap.size + 1, w5.heap.size, rfl, RSt.start HA5.out H05.out H15.out H25.out H35.out HG5.out HN.out HO5.out HM.out HH5.out HI5.out HCR.out (below_drewN (al2 _ _ _) 1) ?_ ?_ (Nat.le_succ _) z3⟩
           · exact (show BT (((w5.alloc (.cells cur 23)).alloc _).drew) (w5.heap.size + 1) _ _ from BT.on (by have h := BT.new (w5.alloc (.cells cur 23)) (inCs (newIn src dst zz iv ⟨false, true, ap, (zn : Int), (xn : Int), (ln : Int), op, bk, fr⟩) (.slice (some ⟨w5.heap.size, 0, none⟩) (ln + 1) (ln + 1))) 95; rw [World.size_alloc] at h; exact h) ((Below.refl _ _).drew))
           · exact ((parts_made HCUR.out (by omega)).on (al1 _ _)).on ((Below.refl _ _).drew))
        | (refine ⟨w5.heap.size, w5.heap.size + 1, rfl, RSt.start HA5.out H05.out H15.out H25.out H35.out HG5.out HN.out HO5.out HM.out HH5.out HI5.out HCR.out (below_drewN (al2 _ _ _) 1) ?_ ?_ (Nat.le_refl _) z3⟩
           · exact (show BT (((w5.alloc _).alloc (.cells cur 23)).drew) w5.heap.size _ _ from BT.on (BT.on (BT.new w5 (inCs (newIn src dst zz iv ⟨false, true, ap, (zn : Int), (xn : Int), (ln : Int), op, bk, fr⟩) (.slice (some ⟨w5.heap.size + 1, 0, none⟩) (ln + 1) (ln + 1))) 95) (al1 _ _)) ((Below.refl _ _).drew))
           · have h := parts_made (w := w5.alloc (.cells (inCs (newIn src dst zz iv ⟨false, true, ap, (zn : Int), (xn : Int), (ln : Int), op, bk, fr⟩) (.slice (some ⟨w5.heap.size + 1, 0, none⟩) (ln + 1) (ln + 1))).toArray 95)) HCUR.out (by omega)
             rw [World.size_alloc] at h
             exact OwnParts.low (h.on ((Below.refl _ _).drew)) (Nat.le_succ _))
        | fail
  case rest =>
    obtain ⟨bm, bp, rfl, hR⟩ := hcut
    have HR0 := Lib.hid hR
    clear hR mk2 HCUR H05 H15 H25 H35 HG5 HH5 HO5 HI5 HA5 z3 z2 z1 q2 q5 s1
    go_upto_if 95 with fail
    go_cut [] from 94 to 111 (fun wx => ∃ (A6 : Option Addr) (c6 : Nat) (vm : Value) (vs : List Value), RSt os js1 x1 w wx g N (.slice A6 js1.length c6) vm bm [.int .u16 (isrc : Int), .int .u32 (iv : Int), .int .u32 (seq : Int)] [.bool false, .bool true, .bool ap, .int .i64 (zn : Int), .int .i64 (xn : Int), .int .i64 (ln : Int), .int .i64 op, .int .u32 (bk : Int), .bool fr, .slice A n c] vs xs)
    case first =>
      rcases HPK.out with ⟨ha, hp⟩ | ⟨i, xi, hxi, ha, hp, hl1, ha1, _⟩
      · obtain ⟨rfl, rfl⟩ := Prod.mk.inj hp
        subst ha
        clear hp
        go_wp2_with fail
        go_meet
        exact ⟨_, _, _, _, by have h := HR0.out; rw [← HM.out] at h; exact h⟩
      · obtain ⟨rfl, rfl⟩ := Prod.mk.inj hp
        subst ha
        have hiM : i < M := by rw [← HM.out]; exact (List.getElem?_eq_some_iff.1 hxi).1
        have HXI := Lib.hid hxi
        have hvl : ys.length = is.length := HR0.out.vlen
        obtain ⟨yi, hyi⟩ : ∃ yi, ys[i]? = some yi := ⟨_, List.getElem?_eq_getElem (by rw [hvl, HM.out]; exact hiM)⟩
        have HYI := Lib.hid hyi
        obtain ⟨A7, n7, c7, rfl⟩ : ∃ A7 n7 c7, yi = .slice A7 n7 c7 := by
          obtain ⟨_, _, k2, _⟩ := HR0.out.others.1.2.1 i x1 yi hxi hyi
          obtain ⟨A7, c7, h7⟩ := own_form k2
          exact ⟨A7, _, c7, h7⟩
        obtain ⟨xs1, xd1, xa1, xz1, xi1, xl1, xp1, xb1, xdu1, xt1, xf1⟩ := x1
        have hrow : wc.ownsRow (w.heap.size + 4) 95 11 (.slice (some ⟨h, 0, none⟩) M M) is.length (flat2 inCs is ys) := HR0.out.row
        have hcell : ∀ (j : Nat) (y : Value), j < 11 → (inCs ⟨xs1, xd1, xa1, xz1, xi1, xl1, xp1, xb1, xdu1, xt1, xf1⟩ (.slice A7 n7 c7))[j]? = some y → wc.cell? ⟨h, i * 11 + j, none⟩ = some y := fun j y hj hy => by
          rw [HM.out] at hrow
          exact own_cell hrow ((flat2_at inCs_len is ys i _ _ j hvl hxi hyi hj).trans hy)
        have d0 : wc.cell? ⟨h, i * 11, none⟩ = some (.int .u16 (xs1 : Int)) := hcell 0 _ (by omega) rfl
        have d1 : wc.cell? ⟨h, i * 11 + 1, none⟩ = some (.int .u16 (xd1 : Int)) := hcell 1 _ (by omega) rfl
        have d2 : wc.cell? ⟨h, i * 11 + 2, none⟩ = some (.bool xa1) := hcell 2 _ (by omega) rfl
        have d3 : wc.cell? ⟨h, i * 11 + 3, none⟩ = some (.int .u32 (xz1 : Int)) := hcell 3 _ (by omega) rfl
        have d4 : wc.cell? ⟨h, i * 11 + 4, none⟩ = some (.int .u32 (xi1 : Int)) := hcell 4 _ (by omega) rfl
        have d5 : wc.cell? ⟨h, i * 11 + 5, none⟩ = some (.int .i64 xl1) := hcell 5 _ (by omega) rfl
        have d6 : wc.cell? ⟨h, i * 11 + 6, none⟩ = some (.slice A7 n7 c7) := hcell 6 _ (by omega) rfl
        have d7 : wc.cell? ⟨h, i * 11 + 7, none⟩ = some (.int .u32 (xb1 : Int)) := hcell 7 _ (by omega) rfl
        have d8 : wc.cell? ⟨h, i * 11 + 8, none⟩ = some (.int .i64 xdu1) := hcell 8 _ (by omega) rfl
        have d9 : wc.cell? ⟨h, i * 11 + 9, none⟩ = some (.int .i64 xt1) := hcell 9 _ (by omega) rfl
        have d10 : wc.cell? ⟨h, i * 11 + 10, none⟩ = some (.bool xf1) := hcell 10 _ (by omega) rfl
        have hlt := hrow
        rw [HM.out] at hlt
        have zh := (hlt.lt h rfl).2
        have p1 := HR0.out.b0.cell (j := 1) rfl
        have z0 := HR0.out.b0.lt
        have hbm := HR0.out.bx.box.lt
        have e0 := HR0.out.bx.box.cell (j := 0) rfl
        have f0 := HR0.out.bx.box.free 0
        have e1 := HR0.out.bx.box.cell (j := 1) rfl
        have f1 := HR0.out.bx.box.free 1
        have e2 := HR0.out.bx.box.cell (j := 2) rfl
        have f2 := HR0.out.bx.box.free 2
        have e3 := HR0.out.bx.box.cell (j := 3) rfl
        have f3 := HR0.out.bx.box.free 3
        have e4 := HR0.out.bx.box.cell (j := 4) rfl
        have f4 := HR0.out.bx.box.free 4
        have e5 := HR0.out.bx.box.cell (j := 5) rfl
        have f5 := HR0.out.bx.box.free 5
        have e6 := HR0.out.bx.box.cell (j := 6) rfl
        have f6 := HR0.out.bx.box.free 6
        have e7 := HR0.out.bx.box.cell (j := 7) rfl
        have f7 := HR0.out.bx.box.free 7
        have e8 := HR0.out.bx.box.cell (j := 8) rfl
        have f8 := HR0.out.bx.box.free 8
        have e9 := HR0.out.bx.box.cell (j := 9) rfl
        have f9 := HR0.out.bx.box.free 9
        have e10 := HR0.out.bx.box.cell (j := 10) rfl
        have f10 := HR0.out.bx.box.free 10
        clear hp hxi hl1 ha1 hyi hcell hrow hlt
        go_upto_region 16 with fail
        obtain ⟨Z, hZ⟩ : ∃ Z, Z = wc.setCells bm 0 (inCs ⟨xs1, xd1, xa1, xz1, xi1, xl1, xp1, xb1, xdu1, xt1, xf1⟩ (.slice A7 n7 c7)) := ⟨_, rfl⟩
        rw [show ((((((((((wc.setCell ⟨bm, 0, none⟩ (.int .u16 (xs1 : Int))).setCell ⟨bm, 1, none⟩ (.int .u16 (xd1 : Int))).setCell ⟨bm, 2, none⟩ (.bool xa1)).setCell ⟨bm, 3, none⟩ (.int .u32 (xz1 : Int))).setCell ⟨bm, 4, none⟩ (.int .u32 (xi1 : Int))).setCell ⟨bm, 5, none⟩ (.int .i64 xl1)).setCell ⟨bm, 6, none⟩ (.slice A7 n7 c7)).setCell ⟨bm, 7, none⟩ (.int .u32 (xb1 : Int))).setCell ⟨bm, 8, none⟩ (.int .i64 xdu1)).setCell ⟨bm, 9, none⟩ (.int .i64 xt1)).setCell ⟨bm, 10, none⟩ (.bool xf1) = Z from hZ.symm]
        have HP := Lib.hid (show PSt os is ⟨xs1, xd1, xa1, xz1, xi1, xl1, xp1, xb1, xdu1, xt1, xf1⟩ w Z g h N M (.slice A7 n7 c7) bm _ _ ys xs by rw [hZ]; exact HR0.out.pick HM.out _ _)
        clear hZ HR0 d0 e0 f0 d1 e1 f1 d2 e2 f2 d3 e3 f3 d4 e4 f4 d5 e5 f5 d6 e6 f6 d7 e7 f7 d8 e8 f8 d9 e9 f9 d10 e10 f10 p1 z0 zh hbm
        have p1 := HP.out.b0.cell (j := 1) rfl
        have z0 := HP.out.b0.lt
        have f1 := HP.out.b0.free 1
        have hiM1 : (i : Int) + 1 ≤ (M : Int) := by omega
        have hi0 : (0 : Int) ≤ (i : Int) := by omega
        have hiM2 : (i : Int) ≤ (M : Int) := by omega
        have hM8 : M ≤ 8 := by have := HWF.out.1; have := HM.out; omega
        have hi1 : (0 : Int) ≤ (i : Int) + 1 := by omega
        have hit : ((i : Int) + 1).toNat = i + 1 := by omega
        obtain ⟨AA, hAA⟩ : ∃ AA, (if M = i + 1 then (some ⟨h, 0, none⟩ : Option Addr) else some ⟨h, (i + 1) * 11, none⟩) = AA := ⟨_, rfl⟩
        have HCUT := Lib.hid (show Sl Z.drew Z.heap.size 11 (.slice AA (M - (i + 1)) (M - (i + 1))) (M - (i + 1)) ((flat2 inCs is ys).drop ((i + 1) * 11)) by
          have h1 := (Sl.of_own HP.out.row).cutN (k := i + 1) (by omega)
          rw [Nat.zero_add, hAA] at h1
          exact h1.drew)
        have HPRE := Lib.hid (show Z.drew.ownsRow (w.heap.size + 4) 95 11 (.slice (some ⟨h, 0, none⟩) i M) i ((flat2 inCs is ys).take (i * 11)) from own_drew (own_take HP.out.row (by omega)))
        have HONE := Lib.hid (show ∀ u ∈ (flat2 inCs is ys).drop ((i + 1) * 11), u.oneCell' = true from fun u hu => flat2_cells (fun o v => inCs_one o) is ys (fun v hv => by
          obtain ⟨q, hq, rfl⟩ := List.getElem_of_mem hv
          have hqo : q < is.length := by rw [← HP.out.many.1]; exact hq
          exact partsV_one (HP.out.many.2.1 q _ _ (List.getElem?_eq_getElem hqo) (List.getElem?_eq_getElem hq)).reads) u (List.mem_of_mem_drop hu))
        have HPD := Lib.hid HP.out.drew
        have HBY := Lib.hid (show (i + (M - (i + 1))) * 80 ≤ 140737488355328 by omega)
        have HBA := Lib.hid (show w.heap.size + 4 ≤ Z.drew.heap.size from Nat.le_of_lt (Nat.lt_of_le_of_lt (Nat.le_of_eq rfl) (Nat.lt_of_le_of_lt HP.out.bm4 HP.out.bx.box.lt)))
        have HNE9 := Lib.hid (show (some w.heap.size : Option Nat) ≠ some h from fun e => by
          have h1 : w.heap.size = h := by simpa using e
          have h2 := (HP.out.row.lt h rfl).1
          omega)
        have hwi : IntKind.i64.wrap ((i : Int) + 1) = (i : Int) + 1 := IntWalk.i64_in _ (by omega)
        go_region_law (first
          | (refine step_sl _ elIn (by rfl) (.tmp 104) (.tmp 109) (by rfl) (by rfl) HPRE.out (by rfl) HCUT.out HONE.out HBY.out HBA.out ?_
             intro v9 w9 hown9 hg9 _ hat9
             have hg9' : Z.drew.grownBy w9 (some h) := hg9
             have hne9 := HNE9.out
             have p9 := (HPD.out.b0.grown hg9' hne9).cell (j := 1) rfl
             have f9 := (HPD.out.b0.grown hg9' hne9).free 1
             have z9 := (HPD.out.b0.grown hg9' hne9).lt
             have HG9 := Lib.hid hg9'
             have HO9 := Lib.hid hown9
             have HAT := Lib.hid (show v9.ownBlock = some h ∨ v9.ownBlock = some Z.drew.heap.size from hat9)
             obtain ⟨A9, c9, rfl⟩ := own_form hown9
             clear hg9 hown9 hat9 hg9' hne9))
        all_goals
          clear p9 f9 z9 p1 z0 f1 hwi
          go_wp2_with fail
          go_meet
        all_goals
          have hlen : is.length - 1 = i + (M - (i + 1)) := by have := HM.out; omega
          have h1 := HPD.out.out HXI.out HYI.out HO9.out (by omega) rfl HG9.out HAT.out
          exact ⟨A9, c9, _, _, by rw [List.length_eraseIdx_of_lt (by rw [HM.out]; exact hiM), hlen]; exact h1⟩
    case rest =>
      obtain ⟨A6, c6, vm, vs, hR⟩ := hcut
      have HR1 := Lib.hid hR
      have HWX := Lib.hid (pick_wf HWF.out (by omega) (by omega) HPK.out)
      clear hR HR0 HPK
      obtain ⟨hwx, hxl, hxa, hjs⟩ := HWX.out
      dsimp only at hxl hxa
      obtain ⟨xs1, xd1, xa1, xz1, xi1, xl1, xp1, xb1, xdu1, xt1, xf1⟩ := x1
      dsimp only at hxl hxa
      subst hxl hxa
      have HJS := Lib.hid hjs
      have HWXX := Lib.hid hwx
      have HX := Lib.hid (show (((xn : Nat) : Int)).toNat = xn from rfl)
      have hx31 : xn ≤ 31 := by omega
      clear hjs hwx HWX
      go_wp2_with fail
      refine (CN.out _).mono ?_
      rintro e w6 ⟨rfl, rfl⟩
      have b10 := HR1.out.bx.box.cell (j := 10) rfl
      have hbm := HR1.out.bx.box.lt
      have hR' := HR.out
      simp only [Int.toNat_natCast] at hR'
      have HRR := Lib.hid hR'
      clear hR' HR
      go_upto_if 116 with fail
      go_cut [15] from 112 to 176 (fun t15 wx => ∃ (vm2 : Value) (A8 : Option Addr) (n8 c8 : Nat), t15 = .slice A8 n8 c8 ∧ RSt os js1 (midIn (⟨xs1, xd1, xa1, xz1, xi1, (ln : Int), xp1, xb1, xdu1, xt1, xf1⟩ : InS) xn bl ttl now nd).1 w wx g N (.slice A6 js1.length c6) vm2 bm [.int .u16 (isrc : Int), .int .u32 (iv : Int), .int .u32 (seq : Int)] [.bool false, .bool true, .bool xa1, .int .i64 (zn : Int), .int .i64 (xn : Int), .int .i64 (ln : Int), .int .i64 op, .int .u32 (bk : Int), .bool fr, .slice A n c] vs xs ∧ OwnAccs wx (w.heap.size + 4) t15 (gotIn src dst iv zz (⟨xs1, xd1, xa1, xz1, xi1, (ln : Int), xp1, xb1, xdu1, xt1, xf1⟩ : InS) xn bl ttl now nd))
      case first =>
        rcases xf1 with _ | _
        · have b9 := HR1.out.bx.box.cell (j := 9) rfl
          have f9 := HR1.out.bx.box.free 9
          go_upto_region 20 with fail
          obtain ⟨W6, hW6⟩ : ∃ W6, W6 = wc.setCell ⟨bm, 9, none⟩ (.int .i64 ttl) := ⟨_, rfl⟩
          have HR2 := Lib.hid (show RSt os js1 (⟨xs1, xd1, xa1, xz1, xi1, (ln : Int), xp1, xb1, xdu1, ttl, false⟩ : InS) w W6 g N (.slice A6 js1.length c6) vm bm [.int .u16 (isrc : Int), .int .u32 (iv : Int), .int .u32 (seq : Int)] [.bool false, .bool true, .bool xa1, .int .i64 (zn : Int), .int .i64 (xn : Int), .int .i64 (ln : Int), .int .i64 op, .int .u32 (bk : Int), .bool fr, .slice A n c] vs xs by rw [hW6]; exact HR1.out.setM (x' := (⟨xs1, xd1, xa1, xz1, xi1, (ln : Int), xp1, xb1, xdu1, ttl, false⟩ : InS)) rfl rfl)
          rw [← hW6]
          clear hW6 b9 f9 b10 hbm
          have b7 := HR2.out.bx.box.cell (j := 7) rfl
          have q4 := HR2.out.b2.cell (j := 4) rfl
          have z2 := HR2.out.b2.lt
          have hbm := HR2.out.bx.box.lt
          dsimp only at b7
          have hbit := bit_and1 xn HWXX.out.2.2.2.2.2
          dsimp only at hbit
          have HBIT := Lib.hid hbit
          clear hbit
          go_upto_if 125 with fail
          go_cut [] from 112 to 141 (fun wx => ∃ vm2, RSt os js1 (putIn (⟨xs1, xd1, xa1, xz1, xi1, (ln : Int), xp1, xb1, xdu1, xt1, false⟩ : InS) xn bl ttl) w wx g N (.slice A6 js1.length c6) vm2 bm [.int .u16 (isrc : Int), .int .u32 (iv : Int), .int .u32 (seq : Int)] [.bool false, .bool true, .bool xa1, .int .i64 (zn : Int), .int .i64 (xn : Int), .int .i64 (ln : Int), .int .i64 op, .int .u32 (bk : Int), .bool fr, .slice A n c] vs xs)
          case first =>
            by_cases h0 : xb1 / 2 ^ xn % 2 = 0
            · have hpu := putIn_yes (x := (⟨xs1, xd1, xa1, xz1, xi1, (ln : Int), xp1, xb1, xdu1, xt1, false⟩ : InS)) (k := xn) (bl := bl) (ttl := ttl) h0
              dsimp only at hpu
              have HPU := Lib.hid hpu
              clear hpu
              have hq : (bits BinOp.and IntKind.u32 ((xb1 : Int) / 2 ^ xn) 1 == 0) = true := by rw [HBIT.out, h0]; rfl
              have hor := bit_or HWXX.out.2.2.2.2.2 hx31 h0
              dsimp only at hor
              have hor2 : bits BinOp.or IntKind.u32 (xb1 : Int) (IntKind.u32.wrap ((2 : Int) ^ xn)) = ((xb1 + 2 ^ xn : Nat) : Int) := hor
              have HOR := Lib.hid hor2
              clear hor hor2
              have f7 := HR2.out.bx.box.free 7
              rw [hq]
              clear HBIT h0
              go_upto_region 21 with fail
              go_cut [] from 112 to 132 (fun wx => RSt os js1 (⟨xs1, xd1, xa1, xz1, xi1, (ln : Int), xp1, xb1 + 2 ^ xn, xdu1, ttl, false⟩ : InS) w wx g N (.slice A6 js1.length c6) vm bm [.int .u16 (isrc : Int), .int .u32 (iv : Int), .int .u32 (seq : Int)] [.bool false, .bool true, .bool xa1, .int .i64 (zn : Int), .int .i64 (xn : Int), .int .i64 (ln : Int), .int .i64 op, .int .u32 (bk : Int), .bool fr, .slice A n c] vs xs)
              case first =>
                go_region_law (fail)
                all_goals
                  go_wp2_with fail
                  go_meet
                  rw [HOR.out]
                  exact (HR2.out.on (al_drew _)).setM (x' := (⟨xs1, xd1, xa1, xz1, xi1, (ln : Int), xp1, xb1 + 2 ^ xn, xdu1, ttl, false⟩ : InS)) rfl rfl
              case rest =>
                have HR3 := Lib.hid hcut
                clear hcut HOR f7 b7 q4 z2 hbm
                obtain ⟨us, k1, k2, k3⟩ := HR3.out.parts
                have hpl : xp1.length = ln + 1 := by have h := HWXX.out.2.2.1 rfl; dsimp only at h; omega
                dsimp only at k1 k2
                rw [hpl] at k2
                have HPL := Lib.hid hpl
                clear hpl
                obtain ⟨bq, cq, rfl, hbq1, hbq2⟩ := own_addr k2 (by omega)
                have hbb : bm ≠ bq := fun e => by subst e; exact far_type HR3.out.mrow k2 (by decide) _ rfl rfl
                have b6 := HR3.out.bx.box.cell (j := 6) rfl
                have q4 := HR3.out.b2.cell (j := 4) rfl
                have q9 := HR3.out.b2.cell (j := 9) rfl
                have z2 := HR3.out.b2.lt
                have hbm := HR3.out.bx.box.lt
                have n1 : bq ≠ bm := Ne.symm hbb
                have n2 : bq ≠ w.heap.size + 1 + 1 := by omega
                have n3 : bm ≠ w.heap.size + 1 + 1 := by have := HR3.out.bm4; omega
                have hxl : (xn : Int) < ((ln + 1 : Nat) : Int) := by omega
                have hx0 : (0 : Int) ≤ (xn : Int) := by omega
                have hxl2 : (xn : Int) < (ln : Int) + 1 := by omega
                have hxl3 : xn < ln + 1 := by omega
                have HJ := Lib.hid (show BS wc.drew wc.drew.heap.size (.slice A n c) bl from (show BS wc wc.heap.size (.slice A n c) bl from (HBV.out.below HR3.out.below).more HR3.out.below.size))
                clear k1 k2 k3
                (try dsimp only at b6)
                go_upto_region 22 with fail
                refine wp_region_noPanic ?_
                refine wp_region_held_drew (S := fun w' => (w'.cell? ⟨bm, 6, none⟩ = some (.slice (some ⟨bq, 0, none⟩) (ln + 1) cq) ∧ w'.cell? ⟨w.heap.size + 1 + 1, 4, none⟩ = some (.int .i64 (xn : Int)) ∧ w'.cell? ⟨w.heap.size + 1 + 1, 9, none⟩ = some (.slice A n c)) ∧ bm < w'.heap.size ∧ w.heap.size + 1 + 1 < w'.heap.size ∧ bq < w'.heap.size) (by kernel_rfl) (by (go_keep; try omega)) (fun hHeld => ?_)
                refine wpAnyH_take (i := 0) (v := ?_) rfl (by kernel_rfl) (by kernel_rfl) (by kernel_rfl) (fun _ _ _ h => h) (Or.inl ⟨by rfl, ?_⟩) (by assumption) ?_
                rotate_left
                · intro w hSw
                  (try dsimp only at hSw)
                  go_simp
                  first | done | with_reducible rfl
                simp only [Act.put, List.getElem_toArray, List.getElem_cons_zero, List.setIfInBounds_toArray, List.set_cons_zero, List.set_cons_succ]
                refine wpAnyH_take (i := 1) (v := ?_) rfl (by kernel_rfl) (by kernel_rfl) (by kernel_rfl) (fun _ _ _ h => h) (Or.inl ⟨by rfl, ?_⟩) (by assumption) ?_
                rotate_left
                · intro w hSw
                  (try dsimp only at hSw)
                  go_simp
                  first | done | with_reducible rfl
                simp only [Act.put, List.getElem_toArray, List.getElem_cons_succ, List.getElem_cons_zero, List.setIfInBounds_toArray, List.set_cons_zero, List.set_cons_succ]
                refine wpAnyH_take (i := 2) (v := ?_) rfl (by kernel_rfl) (by kernel_rfl) (by kernel_rfl) (fun _ _ _ h => h) (Or.inl ⟨by rfl, ?_⟩) (by assumption) ?_
                rotate_left
                · intro w hSw
                  (try dsimp only at hSw)
                  go_simp
                  first | done | with_reducible rfl
                simp only [Act.put, List.getElem_toArray, List.getElem_cons_succ, List.getElem_cons_zero, List.setIfInBounds_toArray, List.set_cons_zero, List.set_cons_succ]
                refine wpAnyH_take (i := 3) (v := ?_) rfl (by kernel_rfl) (by kernel_rfl) (by kernel_rfl) (fun _ _ _ h => h) (Or.inl ⟨by rfl, ?_⟩) (by assumption) ?_
                rotate_left
                · intro w hSw
                  (try dsimp only at hSw)
                  go_simp
                  first | done | with_reducible rfl
                simp only [Act.put, List.getElem_toArray, List.getElem_cons_succ, List.getElem_cons_zero, List.setIfInBounds_toArray, List.set_cons_zero, List.set_cons_succ]
                refine wpAnyH_take (i := 4) (v := ?_) rfl (by kernel_rfl) (by kernel_rfl) (by kernel_rfl) (fun _ _ _ h => h) (Or.inl ⟨by rfl, ?_⟩) (by assumption) ?_
                rotate_left
                · intro w hSw
                  (try dsimp only at hSw)
                  go_simp
                  first | done | with_reducible rfl
                simp only [Act.put, List.getElem_toArray, List.getElem_cons_succ, List.getElem_cons_zero, List.setIfInBounds_toArray, List.set_cons_zero, List.set_cons_succ]
                refine wpAnyH_take (i := 5) (v := ?_) rfl (by kernel_rfl) (by kernel_rfl) (by kernel_rfl) (fun _ _ _ h => h) (Or.inl ⟨by rfl, ?_⟩) (by assumption) ?_
                rotate_left
                · intro w hSw
                  (try dsimp only at hSw)
                  go_simp
                  first | done | with_reducible rfl
                simp only [Act.put, List.getElem_toArray, List.getElem_cons_succ, List.getElem_cons_zero, List.setIfInBounds_toArray, List.set_cons_zero, List.set_cons_succ]
                refine wpAnyH_ready (rs := [6]) (by kernel_rfl) (by simp) ?_
                refine AllReadyH.cons rfl (fun K hK => ?_) AllReadyH.nil
                go_simp
                first | (refine hK.out _ _ ?_ (fun hHeld => ?_)) | (go_wp2_with fail; refine hK.out _ _ ?_ (fun hHeld => ?_))
                · (go_keep; try omega)
                clear hK K
                try simp only [Act.put, List.getElem_toArray, List.getElem_cons_succ, List.getElem_cons_zero, List.setIfInBounds_toArray, List.set_cons_zero, List.set_cons_succ]
                refine wpAnyH_ready (rs := [7]) (by kernel_rfl) (by simp) ?_
                refine AllReadyH.cons rfl (fun K hK => ?_) AllReadyH.nil
                go_simp
                refine (join1 _ bl wc.drew HJ.out (by rw [Hn.out]; have := HBL.out; omega) _).mono ?_
                rintro e w7 ⟨hb7', x, rfl, hx⟩
                have hb7 : Below wc.heap.size wc w7 := ((Below.refl _ _).drew).trans hb7'
                have hc7 := bfar wc.heap.size hb7 (Nat.le_refl _)
                have y7 : bm < w7.heap.size := Nat.lt_of_lt_of_le hbm hb7.size
                have x7 : w.heap.size + 1 + 1 < w7.heap.size := Nat.lt_of_lt_of_le z2 hb7.size
                have v7 : bq < w7.heap.size := Nat.lt_of_lt_of_le hbq2 hb7.size
                have HR4 := Lib.hid (HR3.out.on hb7)
                obtain ⟨us7, j1, j2, j3⟩ := HR4.out.parts
                have j3' : ∀ (k : Nat) u p, us7[k]? = some u → xp1[k]? = some p → OB w7 (w.heap.size + 4) u p := j3
                dsimp only at j1 j2
                rw [HPL.out] at j1 j2
                have hu7 : us7[xn]? = some us7[xn] := List.getElem?_eq_getElem (by omega)
                obtain ⟨A8, c8, hf8⟩ := own_form (j3' xn us7[xn] (xp1[xn]'(by have := HPL.out; omega)) hu7 (List.getElem?_eq_getElem (by have := HPL.out; omega)))
                rw [hf8] at hu7
                have g7 := own_cell j2 (k := xn) hu7
                have gw := (hc7 bq xn hbq2).symm.trans g7
                have i7 := j2.frozenAt xn
                generalize (xp1[xn]'(by have := HPL.out; omega)).length = n8 at *
                obtain ⟨A5, c5, rfl⟩ := own_slice hx
                clear j1 j2 j3 j3' hu7 hf8
                first | (refine hK.out _ _ ?_ (fun hHeld => ?_)) | (go_wp2_with fail; refine hK.out _ _ ?_ (fun hHeld => ?_))
                · (go_keep; try omega)
                clear hK K
                try simp only [Act.put, List.getElem_toArray, List.getElem_cons_succ, List.getElem_cons_zero, List.setIfInBounds_toArray, List.set_cons_zero, List.set_cons_succ]
                refine wpAnyH_take (i := 8) (v := ?_) rfl (by kernel_rfl) (by kernel_rfl) (by kernel_rfl) (fun _ _ _ h => h) (Or.inl ⟨by rfl, ?_⟩) (by assumption) ?_
                rotate_left
                · intro w hSw
                  (try dsimp only at hSw)
                  go_simp
                  first | done | with_reducible rfl
                simp only [Act.put, List.getElem_toArray, List.getElem_cons_succ, List.getElem_cons_zero, List.setIfInBounds_toArray, List.set_cons_zero, List.set_cons_succ]
                refine wpAnyH_ready (rs := [9]) (by kernel_rfl) (by simp) ?_
                refine AllReadyH.cons rfl (fun K hK => ?_) AllReadyH.nil
                go_simp
                first | (refine hK.out _ _ ?_ (fun hHeld => ?_)) | (go_wp2_with fail; refine hK.out _ _ ?_ (fun hHeld => ?_))
                · (go_keep; try omega)
                clear hK K
                try simp only [Act.put, List.getElem_toArray, List.getElem_cons_succ, List.getElem_cons_zero, List.setIfInBounds_toArray, List.set_cons_zero, List.set_cons_succ]
                refine wpAnyH_done (by kernel_rfl) ?_ _
                refine NoPanic.normal ?_
                have HX7 := Lib.hid (show w7.ownsRow wc.heap.size 5 1 (.slice A5 bl.length c5) bl.length (bys bl) from hx)
                clear hb7 hb7' hc7 y7 x7 v7 g7 gw i7 hx HJ hHeld b6 q4 q9 z2 hbm n1 n2 n3 hxl hx0 hxl2
                go_wp2_with fail
                go_meet
                have hz4 : w.heap.size + 4 ≤ wc.heap.size := by have h1 := HR3.out.bm4; have h2 := HR3.out.bx.box.lt; omega
                have h9 := HR4.out.part (x' := (⟨xs1, xd1, xa1, xz1, xi1, (ln : Int), xp1.set xn bl, xb1 + 2 ^ xn, xdu1, ttl, false⟩ : InS)) (k := xn) (u := .slice A5 bl.length c5) (bl := bl) (by show xn < xp1.length; rw [HPL.out]; exact hxl3) (own_base HX7.out hz4) rfl rfl
                refine ⟨.slice (some ⟨bq, 0, none⟩) (ln + 1) cq, ?_⟩
                rw [HPU.out]
                exact h9
            · have hpu := putIn_no (x := (⟨xs1, xd1, xa1, xz1, xi1, (ln : Int), xp1, xb1, xdu1, xt1, false⟩ : InS)) (k := xn) (bl := bl) (ttl := ttl) h0
              dsimp only at hpu
              have HPU := Lib.hid hpu
              clear hpu
              have hq : (bits BinOp.and IntKind.u32 ((xb1 : Int) / 2 ^ xn) 1 == 0) = false := by
                rw [HBIT.out]
                have : xb1 / 2 ^ xn % 2 = 1 := by omega
                rw [this]; rfl
              rw [hq]
              clear HBIT h0
              go_wp2_with fail
              go_meet
              exact ⟨vm, by rw [HPU.out]; exact HR2.out⟩
          case rest =>
            obtain ⟨vm2, hR2⟩ := hcut
            obtain ⟨yb, yp, hy, hyl⟩ := putIn_keep (⟨xs1, xd1, xa1, xz1, xi1, (ln : Int), xp1, xb1, xdu1, xt1, false⟩ : InS) xn bl ttl
            dsimp only at hy hyl
            rw [hy] at hR2
            have hmi := midIn_no (x := (⟨xs1, xd1, xa1, xz1, xi1, (ln : Int), xp1, xb1, xdu1, xt1, false⟩ : InS)) (k := xn) (bl := bl) (ttl := ttl) (now := now) (nd := nd) rfl
            rw [hy] at hmi
            have hgi : gotIn src dst iv zz (⟨xs1, xd1, xa1, xz1, xi1, (ln : Int), xp1, xb1, xdu1, xt1, false⟩ : InS) xn bl ttl now nd = if (midIn (⟨xs1, xd1, xa1, xz1, xi1, (ln : Int), xp1, xb1, xdu1, xt1, false⟩ : InS) xn bl ttl now nd).2 = true then [(⟨src, dst, xa1, ttl, src, iv, zz⟩, (putIn (⟨xs1, xd1, xa1, xz1, xi1, (ln : Int), xp1, xb1, xdu1, xt1, false⟩ : InS) xn bl ttl).parts.flatten)] else [] := rfl
            rw [hmi, hy] at hgi
            have hsm := putIn_small (x := (⟨xs1, xd1, xa1, xz1, xi1, (ln : Int), xp1, xb1, xdu1, xt1, false⟩ : InS)) (k := xn) (bl := bl) (ttl := ttl) HWXX.out.2.2.2.2.1 (by rw [Hn.out]; exact HBL.out)
            rw [hy] at hsm
            dsimp only at hsm
            have hpl : yp.length = ln + 1 := by have h := HWXX.out.2.2.1 rfl; dsimp only at h; omega
            have HPL := Lib.hid hpl
            have HR5 := Lib.hid hR2
            have HMI := Lib.hid hmi
            have HGI := Lib.hid hgi
            have HSM := Lib.hid hsm
            clear hR2 hy hyl hpl hmi hgi hsm HBIT HR2 HR1 b7 q4 z2 hbm
            have b7 := HR5.out.bx.box.cell (j := 7) rfl
            have b5 := HR5.out.bx.box.cell (j := 5) rfl
            have b2 := HR5.out.bx.box.cell (j := 2) rfl
            have hbm := HR5.out.bx.box.lt
            (try dsimp only at b7)
            (try dsimp only at b5)
            (try dsimp only at b2)
            have CA := Lib.hid (show ∀ m, Calls Try.prog 47 #[.int .i64 ((ln : Int) + 1)] (wc.drewN m) fun e w'' => e = .returned (.int .u32 ((full (ln + 1) : Nat) : Int)) ∧ ∃ q, w'' = wc.drewN q from fun m => quiet_at (all_any (ln + 1) (by omega) _))
            have hwl : IntKind.i64.wrap ((ln : Int) + 1) = (ln : Int) + 1 := IntWalk.i64_in _ (by omega)
            go_wp2_with fail
            go_quiet ((go_at_call 47; exact CA.out _))
            have HR6 := Lib.hid (HR5.out.on (below_drewN (Below.refl _ _) nq))
            generalize wc.drewN nq = W8 at *
            clear HR5 CA b7 b5 b2 hbm hwl
            have hbm := HR6.out.bx.box.lt
            by_cases hfu : yb = full (ln + 1)
            · have hq : ((yb : Int) == ((full (ln + 1) : Nat) : Int)) = true := by rw [hfu]; simp
              have he := endIn_full (y := (⟨xs1, xd1, xa1, xz1, xi1, (ln : Int), yp, yb, xdu1, ttl, false⟩ : InS)) (nd := nd) (now := now) hfu
              dsimp only at he
              have HE := Lib.hid he
              have hfl := flatten_small yp HSM.out
              rw [HPL.out] at hfl
              obtain ⟨us, k1, k2, k3⟩ := id HR6.out.parts
              dsimp only at k1 k2
              rw [HPL.out] at k2
              obtain ⟨A5, c5, rfl⟩ := own_form k2
              have HJ := Lib.hid (show PartsV W8.drew W8.drew.heap.size (.slice A5 (ln + 1) c5) yp from HR6.out.parts.reads)
              have hfl2 : yp.flatten.length ≤ 140737488355328 := by omega
              have HFL := Lib.hid hfl2
              clear he k1 k2 k3 hfl hfl2
              have b2 := HR6.out.bx.box.cell (j := 2) rfl
              have b6 := HR6.out.bx.box.cell (j := 6) rfl
              have s1 := HR6.out.b1.cell (j := 1) rfl
              have z1 := HR6.out.b1.lt
              (try dsimp only at b2)
              (try dsimp only at b6)
              rw [hq]
              go_upto_region 24 with fail
              go_region_held3 (fun w' => w'.cell? ⟨bm, 2, none⟩ = some (.bool xa1) ∧ w'.cell? ⟨w.heap.size + 1, 1, none⟩ = some (.int .u32 (iv : Int)) ∧ w'.cell? ⟨bm, 6, none⟩ = some (.slice A5 (ln + 1) c5)) (go_keep)
                (first
                  | (go_at_call 35; refine (join_parts HJ.out (by rw [HPL.out]; omega) HFL.out).mono ?_; rintro e w9 ⟨hb9', x, rfl, hx⟩
                     have hb9 : Below W8.heap.size W8 w9 := ((Below.refl _ _).drew).trans hb9'
                     have hc9 := bfar W8.heap.size hb9 (Nat.le_refl _)
                     have y9 : bm < w9.heap.size := Nat.lt_of_lt_of_le hbm hb9.size
                     have x9 : w.heap.size + 1 < w9.heap.size := Nat.lt_of_lt_of_le z1 hb9.size
                     obtain ⟨A9, c9, rfl⟩ := own_slice hx
                     obtain ⟨nf, hnf⟩ : ∃ nf, nf = yp.flatten.length := ⟨_, rfl⟩
                     rw [← hnf] at hx
                     rw [← hnf]
                     have HNF := Lib.hid hnf
                     clear hnf))
              all_goals
                have HX9 := Lib.hid (show w9.ownsRow W8.heap.size 5 1 (.slice A9 nf c9) nf (bys yp.flatten) from hx)
                have HB9 := Lib.hid hb9
                clear hx hb9 hb9' hc9 y9 x9 b2 b6 s1 z1 hbm HJ
                go_upto_region 25 with fail
                have hz8 : w.heap.size + 4 ≤ W8.heap.size := by have h1 := HR6.out.bm4; have h2 := HR6.out.bx.box.lt; omega
                obtain ⟨W10, hW10⟩ : ∃ W10, W10 = w9.alloc (.cells #[.int .u16 (src : Int), .int .u16 (dst : Int), .bool xa1, .int .i64 ttl, .int .u16 (src : Int), .int .u32 (iv : Int), .int .u32 (zz : Int), .slice A9 nf c9] 43) := ⟨_, rfl⟩
                have HOA := Lib.hid (show OwnAccs W10 (w.heap.size + 4) (.slice (some ⟨w9.heap.size, 0, none⟩) 1 1) [(⟨src, dst, xa1, ttl, src, iv, zz⟩, yp.flatten)] by
                  rw [hW10]
                  have hx := HX9.out
                  rw [HNF.out] at hx ⊢
                  exact accs_own ⟨src, dst, xa1, ttl, src, iv, zz⟩ yp.flatten A9 c9 (own_base hx hz8) (Nat.le_trans hz8 HB9.out.size))
                have HR7 := Lib.hid (show RSt os js1 (⟨xs1, xd1, xa1, xz1, xi1, (ln : Int), yp, yb, xdu1, ttl, false⟩ : InS) w W10 g N (.slice A6 js1.length c6) (.slice A5 (ln + 1) c5) bm [.int .u16 (isrc : Int), .int .u32 (iv : Int), .int .u32 (seq : Int)] [.bool false, .bool true, .bool xa1, .int .i64 (zn : Int), .int .i64 (xn : Int), .int .i64 (ln : Int), .int .i64 op, .int .u32 (bk : Int), .bool fr, .slice A n c] vs xs by rw [hW10]; exact (HR6.out.on HB9.out).on (al1 _ _))
                rw [← hW10]
                clear hW10 HR6 HX9 HB9 hz8
                have b10 := HR7.out.bx.box.cell (j := 10) rfl
                have b6 := HR7.out.bx.box.cell (j := 6) rfl
                have f10 := HR7.out.bx.box.free 10
                have f6 := HR7.out.bx.box.free 6
                have hbm := HR7.out.bx.box.lt
                go_wp2_with fail
                go_meet
                have h1 := HR7.out.setM (j := 10) (u := .bool true) (x' := (⟨xs1, xd1, xa1, xz1, xi1, (ln : Int), yp, yb, xdu1, ttl, true⟩ : InS)) rfl rfl
                have h2 := h1.drop (x' := (⟨xs1, xd1, xa1, xz1, xi1, (ln : Int), [], yb, xdu1, ttl, true⟩ : InS)) rfl rfl
                have o1 := HOA.out.store HR7.out.mrow (by decide) (by decide) 10 (.bool true)
                have o2 := o1.store h1.mrow (by decide) (by decide) 6 (.slice none 0 0)
                refine ⟨.slice none 0 0, some ⟨w9.heap.size, 0, none⟩, 1, 1, rfl, ?_, ?_⟩
                · rw [HMI.out, HE.out]
                  exact h2
                · rw [HGI.out, HE.out, if_pos rfl]
                  exact o2
            · have hq : ((yb : Int) == ((full (ln + 1) : Nat) : Int)) = false := by simp; omega
              rw [hq]
              have b8 := HR6.out.bx.box.cell (j := 8) rfl
              have f8 := HR6.out.bx.box.free 8
              (try dsimp only at b8)
              have hfu' : ¬ ((⟨xs1, xd1, xa1, xz1, xi1, (ln : Int), yp, yb, xdu1, ttl, false⟩ : InS)).blk = full (((⟨xs1, xd1, xa1, xz1, xi1, (ln : Int), yp, yb, xdu1, ttl, false⟩ : InS)).last + 1).toNat := hfu
              by_cases hnd : nd = true ∧ xdu1 = 0
              · have he := endIn_due (y := (⟨xs1, xd1, xa1, xz1, xi1, (ln : Int), yp, yb, xdu1, ttl, false⟩ : InS)) (nd := nd) (now := now) hfu' hnd
                dsimp only at he
                have HE := Lib.hid he
                obtain ⟨rfl, rfl⟩ := hnd
                clear he hfu hfu'
                go_wp2_with fail
                go_meet
                refine ⟨vm2, none, 0, 0, rfl, ?_, ?_⟩
                · rw [HMI.out, HE.out]
                  exact HR6.out.setM (j := 8) (u := .int .i64 (now + 10)) (x' := (⟨xs1, xd1, xa1, xz1, xi1, (ln : Int), yp, yb, now + 10, ttl, false⟩ : InS)) rfl rfl
                · rw [HGI.out, HE.out, if_neg (by simp)]
                  exact OwnM.nil _ _
              · have he := endIn_not (y := (⟨xs1, xd1, xa1, xz1, xi1, (ln : Int), yp, yb, xdu1, ttl, false⟩ : InS)) (nd := nd) (now := now) hfu' hnd
                have HE := Lib.hid he
                clear he hfu hfu'
                have hdd : nd = false ∨ (nd = true ∧ (xdu1 == 0) = false) := by
                  rcases nd with _ | _
                  · exact .inl rfl
                  · refine .inr ⟨rfl, ?_⟩
                    have : xdu1 ≠ 0 := fun h => hnd ⟨rfl, h⟩
                    simpa using this
                clear hnd
                rcases hdd with rfl | ⟨rfl, hdd⟩
                all_goals
                  go_wp2_with fail
                  go_meet
                  refine ⟨vm2, none, 0, 0, rfl, ?_, ?_⟩
                  · rw [HMI.out, HE.out]
                    exact HR6.out
                  · rw [HGI.out, HE.out, if_neg (by simp)]
                    exact OwnM.nil _ _
        · have HM1 := Lib.hid (show midIn (⟨xs1, xd1, xa1, xz1, xi1, (ln : Int), xp1, xb1, xdu1, xt1, true⟩ : InS) xn bl ttl now nd = ((⟨xs1, xd1, xa1, xz1, xi1, (ln : Int), xp1, xb1, xdu1, xt1, true⟩ : InS), false) by unfold midIn; rw [if_pos rfl])
          have HG1 := Lib.hid (show gotIn src dst iv zz (⟨xs1, xd1, xa1, xz1, xi1, (ln : Int), xp1, xb1, xdu1, xt1, true⟩ : InS) xn bl ttl now nd = [] by unfold gotIn; rw [HM1.out]; rfl)
          go_wp2_with fail
          go_meet
          exact ⟨vm, none, 0, 0, rfl, by rw [HM1.out]; exact HR1.out, by rw [HG1.out]; exact OwnM.nil _ _⟩
      case rest =>
        obtain ⟨vm3, A8, n8, c8, rfl, hR3, hOA⟩ := hcut
        have hrr := HRR.out
        generalize gotIn src dst iv zz (⟨xs1, xd1, xa1, xz1, xi1, (ln : Int), xp1, xb1, xdu1, xt1, xf1⟩ : InS) xn bl ttl now nd = gt at *
        generalize midIn (⟨xs1, xd1, xa1, xz1, xi1, (ln : Int), xp1, xb1, xdu1, xt1, xf1⟩ : InS) xn bl ttl now nd = mm at *
        obtain ⟨ym, dm⟩ := mm
        dsimp only at hR3 hrr
        have HRA := Lib.hid hrr
        have HR3 := Lib.hid hR3
        have HOA := Lib.hid hOA
        clear hrr hR3 hOA HRR HR1 b10 hbm HWXX
        obtain ⟨y0, y1, y2, y3, y4, y5, y6, y7, y8, y9, yf⟩ := ym
        have b10 := HR3.out.bx.box.cell (j := 10) rfl
        have hbm := HR3.out.bx.box.lt
        obtain ⟨Wf, hWf⟩ : ∃ Wf, Wf = wc := ⟨_, rfl⟩
        go_upto_region 28 with fail
        go_cut [181] from 177 to 181 (fun t181 wx => t181 = .bool (yf && nd) ∧ wx = Wf)
        case first =>
          subst hWf
          rcases yf with _ | _ <;> rcases nd with _ | _
          all_goals
            go_wp2_with fail
            go_meet
            exact ⟨rfl, rfl⟩
        case rest =>
          subst hWf
          obtain ⟨rfl, rfl⟩ := hcut
          go_upto_if 181 with fail
          go_cut [16] from 177 to 184 (fun t16 wx => t16 = .bool (yf && nd) ∧ RSt os js1 (ackIn (⟨y0, y1, y2, y3, y4, y5, y6, y7, y8, y9, yf⟩ : InS) nd now) w wx g N (.slice A6 js1.length c6) vm3 bm [.int .u16 (isrc : Int), .int .u32 (iv : Int), .int .u32 (seq : Int)] [.bool false, .bool true, .bool xa1, .int .i64 (zn : Int), .int .i64 (xn : Int), .int .i64 (ln : Int), .int .i64 op, .int .u32 (bk : Int), .bool fr, .slice A n c] vs xs ∧ OwnAccs wx (w.heap.size + 4) (.slice A8 n8 c8) gt)
          case first =>
            have b8 := HR3.out.bx.box.cell (j := 8) rfl
            have f8 := HR3.out.bx.box.free 8
            rcases yf with _ | _
            · have HK := Lib.hid (show ackIn (⟨y0, y1, y2, y3, y4, y5, y6, y7, y8, y9, false⟩ : InS) nd now = (⟨y0, y1, y2, y3, y4, y5, y6, y7, y8, y9, false⟩ : InS) from if_neg (by simp))
              rw [Bool.false_and]
              go_wp2_with fail
              go_meet
              exact ⟨rfl, by rw [HK.out]; exact HR3.out, HOA.out⟩
            · rcases nd with _ | _
              · have HK := Lib.hid (show ackIn (⟨y0, y1, y2, y3, y4, y5, y6, y7, y8, y9, true⟩ : InS) false now = (⟨y0, y1, y2, y3, y4, y5, y6, y7, y8, y9, true⟩ : InS) from if_neg (by simp))
                go_wp2_with fail
                go_meet
                exact ⟨rfl, by rw [HK.out]; exact HR3.out, HOA.out⟩
              · have hk := (show ackIn (⟨y0, y1, y2, y3, y4, y5, y6, y7, y8, y9, true⟩ : InS) true now = { (⟨y0, y1, y2, y3, y4, y5, y6, y7, y8, y9, true⟩ : InS) with due := max now 1 } from if_pos ⟨rfl, rfl⟩)
                dsimp only at hk
                by_cases h1 : 1 ≤ now
                · rw [show max now 1 = now by omega] at hk
                  have HK := Lib.hid hk
                  have h2 : ¬ now < 1 := by omega
                  clear hk
                  go_wp2_with fail
                  all_goals
                    go_meet
                    refine ⟨rfl, ?_, HOA.out.store HR3.out.mrow (by decide) (by decide) 8 _⟩
                    rw [HK.out]
                    exact HR3.out.setM (j := 8) (u := .int .i64 now) (x' := (⟨y0, y1, y2, y3, y4, y5, y6, y7, now, y9, true⟩ : InS)) rfl rfl
                · obtain rfl : now = 0 := by omega
                  rw [show max (0 : Int) 1 = 1 by omega] at hk
                  have HK := Lib.hid hk
                  clear hk h1
                  go_wp2_with fail
                  all_goals
                    go_meet
                    refine ⟨rfl, ?_, HOA.out.store HR3.out.mrow (by decide) (by decide) 8 _⟩
                    rw [HK.out]
                    exact HR3.out.setM (j := 8) (u := .int .i64 1) (x' := (⟨y0, y1, y2, y3, y4, y5, y6, y7, 1, y9, true⟩ : InS)) rfl rfl
          case rest =>
            obtain ⟨rfl, hR4, hOA⟩ := hcut
            have HR4 := Lib.hid hR4
            have HOB := Lib.hid hOA
            clear hR4 hOA HR3 HOA b10 hbm
            generalize ackIn (⟨y0, y1, y2, y3, y4, y5, y6, y7, y8, y9, yf⟩ : InS) nd now = ya at *
            have hrow := HR4.out.row
            have HRW := Lib.hid hrow
            have p1 := HR4.out.b0.cell (j := 1) rfl
            have z0 := HR4.out.b0.lt
            have f1 := HR4.out.b0.free 1
            have hbm := HR4.out.bx.box.lt
            obtain ⟨A7, n7, c7, rfl⟩ := partsV_form HR4.out.parts.reads
            obtain ⟨v0, v1, v2, v3, v4, v5, v6, v7, v8, v9, v10⟩ := ya
            have e0 := HR4.out.bx.box.cell (j := 0) rfl
            have e1 := HR4.out.bx.box.cell (j := 1) rfl
            have e2 := HR4.out.bx.box.cell (j := 2) rfl
            have e3 := HR4.out.bx.box.cell (j := 3) rfl
            have e4 := HR4.out.bx.box.cell (j := 4) rfl
            have e5 := HR4.out.bx.box.cell (j := 5) rfl
            have e6 := HR4.out.bx.box.cell (j := 6) rfl
            have e7 := HR4.out.bx.box.cell (j := 7) rfl
            have e8 := HR4.out.bx.box.cell (j := 8) rfl
            have e9 := HR4.out.bx.box.cell (j := 9) rfl
            have e10 := HR4.out.bx.box.cell (j := 10) rfl
            have HPSH := Lib.hid (fun w9 vz h9 hg => (HR4.out.on (al1 wc (.cells (inCs ⟨v0, v1, v2, v3, v4, v5, v6, v7, v8, v9, v10⟩ (.slice A7 n7 c7)).toArray 95))).push (w9 := w9) (v9 := vz) h9 hg)
            have hj8 := HJS.out
            have hb4 := HR4.out.bm4
            generalize hJ : js1.length = J at *
            have HJ := Lib.hid hJ
            have HJ8 := Lib.hid hj8
            clear hrow hJ HJS
            have key : ∀ k : Nat, (J = 8 ∧ k = 1) ∨ (J ≤ 7 ∧ k = 0) → J + 1 - 8 = k := by omega
            have hcase : (J = 8) ∨ (J ≤ 7) := by omega
            rcases hcase with h8 | h7
            · subst h8
              go_wp2_with (first
                | (at_builtin
                   refine app_sl _ elIn rfl (.tmp 186) (.tmp 188) rfl rfl (HRW.out.alloc _) rfl (Sl.lit _ _ _ 1 rfl (by simp [maxLen])) ?_ ?_ ?_ ?_
                   (case refine_1 => exact inCs_one ⟨v0, v1, v2, v3, v4, v5, v6, v7, v8, v9, v10⟩ (v := .slice A7 n7 c7) rfl)
                   (case refine_2 => omega)
                   (case refine_3 => simp; omega)
                   intro v9' w9 hown9 hg9 _ hat9
                   obtain ⟨hF, hT9⟩ := HPSH.out w9 v9' hown9 hg9
                   have HOA9 := Lib.hid ((HOB.out.on (al1 wc _)).grown (HRW.out.alloc _) (by decide) (by decide) hg9)
                   have p90 := hT9.cell (j := 0) rfl
                   have p9 := hT9.cell (j := 1) rfl
                   have f9 := hT9.free 1
                   have z9 := hT9.lt
                   have r0 := hF.b3.cell (j := 0) rfl
                   have r1 := hF.b3.cell (j := 1) rfl
                   have rf0 := hF.b3.free 0
                   have rf1 := hF.b3.free 1
                   have rz := hF.b3.lt
                   have n3 := Ne.symm (show w.heap.size ≠ w.heap.size + 1 + 1 + 1 by omega)
                   obtain ⟨g9, c9, rfl, hg9a, hg9b⟩ := own_addr hown9 (by omega)
                   have hc9 := (Sl.of_own hown9).cap
                   have HF := Lib.hid hF
                   clear hF hT9 hown9 hg9 hat9))
              clear p1 z0 f1 hbm e0 e1 e2 e3 e4 e5 e6 e7 e8 e9 e10 p90 p9 f9 z9 r0 r1 rf0 rf1 rz n3
              have hlk : (js1 ++ [(⟨v0, v1, v2, v3, v4, v5, v6, v7, v8, v9, v10⟩ : InS)]).length = 8 + 1 := by rw [List.length_append, HJ.out]; rfl
              have hFY := (HF.out.far 1 (.slice (some ⟨g9, 0, none⟩) (8 + 1) c9)).far 1 (.slice (some ⟨g9, 11, none⟩) (8 + 1 - 1) (c9 - 1))
              have hOY := OwnM.far (OwnM.far HOA9.out (show w.heap.size < w.heap.size + 4 by omega) 1 (.slice (some ⟨g9, 0, none⟩) (8 + 1) c9)) (show w.heap.size < w.heap.size + 4 by omega) 1 (.slice (some ⟨g9, 11, none⟩) (8 + 1 - 1) (c9 - 1))
              obtain ⟨Y, hY⟩ : ∃ Y, Y = (w9.setCell ⟨w.heap.size, 1, none⟩ (.slice (some ⟨g9, 0, none⟩) (8 + 1) c9)).setCell ⟨w.heap.size, 1, none⟩ (.slice (some ⟨g9, 11, none⟩) (8 + 1 - 1) (c9 - 1)) := ⟨_, rfl⟩
              rw [← hY] at hFY hOY
              rw [show (w9.setCell ⟨w.heap.size, 1, none⟩ (.slice (some ⟨g9, 0, none⟩) (8 + 1) c9)).setCell ⟨w.heap.size, 1, none⟩ (.slice (some ⟨g9, 11, none⟩) (8 + 1 - 1) (c9 - 1)) = Y from hY.symm]
              clear hY
              refine bodyPost_ret (res_tr3 rfl _ _ (w.heap.size + 1 + 1 + 1) (.slice (some ⟨g, 0, none⟩) N N) (.slice (some ⟨g9, 11, none⟩) (8 + 1 - 1) (c9 - 1)) rfl ?_) rfl (HQ.out _ _ ⟨?_, _, _, _, by rw [HRA.out]; rfl, ?_, ?_, ?_⟩)
              · exact hFY.b3.put [.slice (some ⟨g, 0, none⟩) N N, .slice (some ⟨g9, 11, none⟩) (8 + 1 - 1) (c9 - 1)] rfl
              · exact below_puts (b := w.heap.size + 1 + 1 + 1) (by omega) 0 [.slice (some ⟨g, 0, none⟩) N N, .slice (some ⟨g9, 11, none⟩) (8 + 1 - 1) (c9 - 1)] hFY.below
              · exact (ownRow_far (ownRow_far hFY.og (by omega) 0 _) (by omega) 1 _).upto (by omega)
              · rw [HRA.out]
                have hkp := keep_rows (k := 1) (own_far (own_far hFY.row (show w.heap.size + 1 + 1 + 1 < w.heap.size + 4 by omega) 0 (.slice (some ⟨g, 0, none⟩) N N)) (show w.heap.size + 1 + 1 + 1 < w.heap.size + 4 by omega) 1 (.slice (some ⟨g9, 11, none⟩) (8 + 1 - 1) (c9 - 1))) (OwnMany.far (OwnMany.far hFY.many (show w.heap.size + 1 + 1 + 1 < w.heap.size + 4 by omega) 0 (.slice (some ⟨g, 0, none⟩) N N)) (show w.heap.size + 1 + 1 + 1 < w.heap.size + 4 by omega) 1 (.slice (some ⟨g9, 11, none⟩) (8 + 1 - 1) (c9 - 1))) (by rw [hlk]; omega)
                rw [hlk, if_neg (show ¬ c9 = 1 by have := hc9.1; omega)] at hkp
                show RowV2 inCs 11 InS.parts _ _ _ _ (keep8 _)
                unfold keep8
                rw [hlk, show 8 + 1 - 8 = 1 by omega]
                exact hkp.mono (by omega) (Nat.le_refl _)
              · rw [HRA.out]
                exact (OwnM.far (OwnM.far hOY (show w.heap.size + 1 + 1 + 1 < w.heap.size + 4 by omega) 0 _) (show w.heap.size + 1 + 1 + 1 < w.heap.size + 4 by omega) 1 _).upto (by omega)
            · have h7' : (J : Int) + 1 - 8 ≤ 0 := by omega
              go_wp2_with (first
                | (at_builtin
                   refine app_sl _ elIn rfl (.tmp 186) (.tmp 188) rfl rfl (HRW.out.alloc _) rfl (Sl.lit _ _ _ 1 rfl (by simp [maxLen])) ?_ ?_ ?_ ?_
                   (case refine_1 => exact inCs_one ⟨v0, v1, v2, v3, v4, v5, v6, v7, v8, v9, v10⟩ (v := .slice A7 n7 c7) rfl)
                   (case refine_2 => omega)
                   (case refine_3 => simp; omega)
                   intro v9' w9 hown9 hg9 _ hat9
                   obtain ⟨hF, hT9⟩ := HPSH.out w9 v9' hown9 hg9
                   have HOA9 := Lib.hid ((HOB.out.on (al1 wc _)).grown (HRW.out.alloc _) (by decide) (by decide) hg9)
                   have p90 := hT9.cell (j := 0) rfl
                   have p9 := hT9.cell (j := 1) rfl
                   have f9 := hT9.free 1
                   have z9 := hT9.lt
                   have r0 := hF.b3.cell (j := 0) rfl
                   have r1 := hF.b3.cell (j := 1) rfl
                   have rf0 := hF.b3.free 0
                   have rf1 := hF.b3.free 1
                   have rz := hF.b3.lt
                   have n3 := Ne.symm (show w.heap.size ≠ w.heap.size + 1 + 1 + 1 by omega)
                   obtain ⟨g9, c9, rfl, hg9a, hg9b⟩ := own_addr hown9 (by omega)
                   have hc9 := (Sl.of_own hown9).cap
                   have HF := Lib.hid hF
                   clear hF hT9 hown9 hg9 hat9))
              clear p1 z0 f1 hbm e0 e1 e2 e3 e4 e5 e6 e7 e8 e9 e10 p90 p9 f9 z9 r0 r1 rf0 rf1 rz n3
              have hlk : (js1 ++ [(⟨v0, v1, v2, v3, v4, v5, v6, v7, v8, v9, v10⟩ : InS)]).length = J + 1 := by rw [List.length_append, HJ.out]; rfl
              have hFY := (HF.out.far 1 (.slice (some ⟨g9, 0, none⟩) (J + 1) c9)).far 1 (.slice (some ⟨g9, 0, none⟩) (J + 1) c9)
              have hOY := OwnM.far (OwnM.far HOA9.out (show w.heap.size < w.heap.size + 4 by omega) 1 (.slice (some ⟨g9, 0, none⟩) (J + 1) c9)) (show w.heap.size < w.heap.size + 4 by omega) 1 (.slice (some ⟨g9, 0, none⟩) (J + 1) c9)
              obtain ⟨Y, hY⟩ : ∃ Y, Y = (w9.setCell ⟨w.heap.size, 1, none⟩ (.slice (some ⟨g9, 0, none⟩) (J + 1) c9)).setCell ⟨w.heap.size, 1, none⟩ (.slice (some ⟨g9, 0, none⟩) (J + 1) c9) := ⟨_, rfl⟩
              rw [← hY] at hFY hOY
              rw [show (w9.setCell ⟨w.heap.size, 1, none⟩ (.slice (some ⟨g9, 0, none⟩) (J + 1) c9)).setCell ⟨w.heap.size, 1, none⟩ (.slice (some ⟨g9, 0, none⟩) (J + 1) c9) = Y from hY.symm]
              clear hY
              refine bodyPost_ret (res_tr3 rfl _ _ (w.heap.size + 1 + 1 + 1) (.slice (some ⟨g, 0, none⟩) N N) (.slice (some ⟨g9, 0, none⟩) (J + 1) c9) rfl ?_) rfl (HQ.out _ _ ⟨?_, _, _, _, by rw [HRA.out]; rfl, ?_, ?_, ?_⟩)
              · exact hFY.b3.put [.slice (some ⟨g, 0, none⟩) N N, .slice (some ⟨g9, 0, none⟩) (J + 1) c9] rfl
              · exact below_puts (b := w.heap.size + 1 + 1 + 1) (by omega) 0 [.slice (some ⟨g, 0, none⟩) N N, .slice (some ⟨g9, 0, none⟩) (J + 1) c9] hFY.below
              · exact (ownRow_far (ownRow_far hFY.og (by omega) 0 _) (by omega) 1 _).upto (by omega)
              · rw [HRA.out]
                have hkp := keep_rows (k := 0) (own_far (own_far hFY.row (show w.heap.size + 1 + 1 + 1 < w.heap.size + 4 by omega) 0 (.slice (some ⟨g, 0, none⟩) N N)) (show w.heap.size + 1 + 1 + 1 < w.heap.size + 4 by omega) 1 (.slice (some ⟨g9, 0, none⟩) (J + 1) c9)) (OwnMany.far (OwnMany.far hFY.many (show w.heap.size + 1 + 1 + 1 < w.heap.size + 4 by omega) 0 (.slice (some ⟨g, 0, none⟩) N N)) (show w.heap.size + 1 + 1 + 1 < w.heap.size + 4 by omega) 1 (.slice (some ⟨g9, 0, none⟩) (J + 1) c9)) (by rw [hlk]; omega)
                rw [hlk] at hkp
                simp only [Nat.zero_mul, ite_self, Nat.sub_zero] at hkp
                show RowV2 inCs 11 InS.parts _ _ _ _ (keep8 _)
                unfold keep8
                rw [hlk, show J + 1 - 8 = 0 by omega]
                exact hkp.mono (by omega) (Nat.le_refl _)
              · rw [HRA.out]
                exact (OwnM.far (OwnM.far hOY (show w.heap.size + 1 + 1 + 1 < w.heap.size + 4 by omega) 0 _) (show w.heap.size + 1 + 1 + 1 < w.heap.size + 4 by omega) 1 _).upto (by omega)
end Go.Proofs.Ytkpjinkkjbljkaa
