/- The walk of transport.Receive: PDUs that are no segments. No condition but the sizes. -/
import Derived.Test.YtkpjinkkjbljkaaTq2
import Derived.Deep.RegionHeld3
namespace Go.Proofs.Ytkpjinkkjbljkaa
open Go.RowKit

set_option maxRecDepth 100000 in
set_option maxHeartbeats 8000000 in
theorem recv_whole (os : List OutS) (is : List InS) (src dst isrc iv seq : Nat) (ttl : Int) (p : Low) (bl : List UInt8) (now : Int) (hbl : bl.length ≤ 65536) (hseq : seq < 4294967296) (v u bv : Value) (w : World)
    (hv : RowV outCs 10 OutS.parts w w.heap.size v os) (hu : RowV inCs 11 InS.parts w w.heap.size u is) (hbv : BS w w.heap.size bv bl) (ho : Sized (os.map OutS.parts)) (hi : WfIs is) (hok : chkL p bl.length = 0) (hc : p.ctl = false) (hs : p.seg = false) :
    Calls Try.prog 23 #[.agg #[v, u], .int .u16 (src : Int), .int .u16 (dst : Int), .agg #[.int .u16 (isrc : Int), .int .u32 (iv : Int), .int .u32 (seq : Int)], .int .i64 ttl, lowV p bv, .int .i64 now] w (RecvPost os (recvT is src dst isrc iv seq ttl p bl now) w) := by
  have HR := Lib.hid (show recvT is src dst isrc iv seq ttl p bl now = (is, [(⟨src, dst, p.app, ttl, isrc, iv, seq⟩, bl)], false) from by unfold recvT; rw [if_neg (by rw [hok, hc]; simp), if_pos hs])
  generalize recvT is src dst isrc iv seq ttl p bl now = r at *
  have HQ := Lib.hid (show ∀ (e : Ending) (w' : World), (Below w.heap.size w w' ∧ ∃ v u x, e = .returned (.tuple #[.agg #[v, u], x, .bool r.2.2]) ∧
    RowV2 outCs 10 OutS.parts w' w.heap.size w'.heap.size v os ∧ RowV2 inCs 11 InS.parts w' w.heap.size w'.heap.size u r.1 ∧ AccsV2 w' w.heap.size w'.heap.size x r.2.1) → RecvPost os r w e w' from fun _ _ h => h)
  generalize RecvPost os r w = Q at *
  obtain ⟨A1, c1, rfl⟩ := rowV_form hv
  obtain ⟨A2, c2, rfl⟩ := rowV_form hu
  obtain ⟨A, c, rfl, _⟩ := id hbv
  have CL := Lib.hid (fun (W : World) (hW : Below w.heap.size w W) => clone_any os is (.slice A1 os.length c1) (.slice A2 is.length c2) W (hv.on hW) (hu.on hW) ho hi.sized)
  have CK := Lib.hid (tcheck_any p A bl.length c)
  have HBV := Lib.hid hbv
  have HWF := Lib.hid hi
  have HBL := Lib.hid hbl
  have HSEQ := Lib.hid hseq
  rw [hok] at CK
  clear hok
  generalize hN : os.length = N at *
  generalize hM : is.length = M at *
  generalize hn : bl.length = n at *
  have HN := Lib.hid hN
  have HM := Lib.hid hM
  have Hn := Lib.hid hn
  clear hN hM hn hv hu hbv ho hi hbl hseq
  obtain ⟨ct, sg, ap, ze, ix, la, op, bk, fr⟩ := p
  go_enter Try.func23, Try.ntmps23
  go_upto_region 1 with fail
  obtain ⟨W, hW⟩ : ∃ W, W = (((w.alloc (.cells #[.slice A1 N c1, .slice A2 M c2] 47)).alloc (.cells #[.int .u16 (isrc : Int), .int .u32 (iv : Int), .int .u32 (seq : Int)] 41)).alloc (.cells #[.bool ct, .bool sg, .bool ap, .int .i64 ze, .int .i64 ix, .int .i64 la, .int .i64 op, .int .u32 (bk : Int), .bool fr, .slice A n c] 25)).alloc (.cells #[.slice none 0 0, .slice none 0 0] 47) := ⟨_, rfl⟩
  have hA : Below w.heap.size w W := by rw [hW]; exact al4 _ _ _ _ _
  have hb0 : Box W w.heap.size [.slice A1 N c1, .slice A2 M c2] := by rw [hW]; exact (((Box.new _ _ _).alloc _).alloc _).alloc _
  have hb1 : Box W (w.heap.size + 1) [.int .u16 (isrc : Int), .int .u32 (iv : Int), .int .u32 (seq : Int)] := ⟨41, by rw [hW, heap_al, if_neg (by simp), heap_al, if_neg (by simp), heap_al, if_pos (by simp)]⟩
  have hb2 : Box W (w.heap.size + 1 + 1) [.bool ct, .bool sg, .bool ap, .int .i64 ze, .int .i64 ix, .int .i64 la, .int .i64 op, .int .u32 (bk : Int), .bool fr, .slice A n c] := ⟨25, by rw [hW, heap_al, if_neg (by simp), heap_al, if_pos (by simp)]⟩
  have hb3 : Box W (w.heap.size + 1 + 1 + 1) [.slice none 0 0, .slice none 0 0] := ⟨47, by rw [hW, heap_al, if_pos (by simp)]⟩
  rw [← hW]
  clear hW
  have HA := Lib.hid hA
  have H0 := Lib.hid hb0
  have H1 := Lib.hid hb1
  have H2 := Lib.hid hb2
  have H3 := Lib.hid hb3
  have p0 := hb0.cell (j := 0) rfl
  have p1 := hb0.cell (j := 1) rfl
  clear hA hb0 hb1 hb2 hb3
  go_wp2_with fail
  refine (CL.out _ HA.out).mono ?_
  rintro e w2 ⟨hb2, g, h, rfl, hog, hoh⟩
  rw [HN.out] at hog
  rw [HM.out] at hoh
  have HA2 := Lib.hid (HA.out.trans (hb2.mono HA.out.size))
  have H02 := Lib.hid (H0.out.on hb2)
  have H12 := Lib.hid (H1.out.on hb2)
  have H22 := Lib.hid (H2.out.on hb2)
  have H32 := Lib.hid (H3.out.on hb2)
  have HLT := Lib.hid H3.out.lt
  have HOG := Lib.hid hog
  have HOH := Lib.hid hoh
  clear hb2 hog hoh p0 p1 HA H0 H1 H2 H3
  have p0 := H02.out.cell (j := 0) rfl
  have p1 := H02.out.cell (j := 1) rfl
  have f0 := H02.out.free 0
  have f1 := H02.out.free 1
  have z0 := H02.out.lt
  rw [HN.out, HM.out]
  go_upto_region 2 with fail
  obtain ⟨W3, hW3⟩ : ∃ W3, W3 = (w2.setCell ⟨w.heap.size, 0, none⟩ (.slice (some ⟨g, 0, none⟩) N N)).setCell ⟨w.heap.size, 1, none⟩ (.slice (some ⟨h, 0, none⟩) M M) := ⟨_, rfl⟩
  have H03 := Lib.hid (show Box W3 w.heap.size [.slice (some ⟨g, 0, none⟩) N N, .slice (some ⟨h, 0, none⟩) M M] by rw [hW3]; exact H02.out.put [.slice (some ⟨g, 0, none⟩) N N, .slice (some ⟨h, 0, none⟩) M M] rfl)
  have H13 := Lib.hid (show Box W3 (w.heap.size + 1) [.int .u16 (isrc : Int), .int .u32 (iv : Int), .int .u32 (seq : Int)] by rw [hW3]; exact H12.out.puts_far (by omega) 0 [.slice (some ⟨g, 0, none⟩) N N, .slice (some ⟨h, 0, none⟩) M M])
  have H23 := Lib.hid (show Box W3 (w.heap.size + 1 + 1) [.bool ct, .bool sg, .bool ap, .int .i64 ze, .int .i64 ix, .int .i64 la, .int .i64 op, .int .u32 (bk : Int), .bool fr, .slice A n c] by rw [hW3]; exact H22.out.puts_far (by omega) 0 [.slice (some ⟨g, 0, none⟩) N N, .slice (some ⟨h, 0, none⟩) M M])
  have H33 := Lib.hid (show Box W3 (w.heap.size + 1 + 1 + 1) [.slice none 0 0, .slice none 0 0] by rw [hW3]; exact H32.out.puts_far (by omega) 0 [.slice (some ⟨g, 0, none⟩) N N, .slice (some ⟨h, 0, none⟩) M M])
  have HA3 := Lib.hid (show Below w.heap.size w W3 by rw [hW3]; exact below_puts (b := w.heap.size) (Nat.le_refl _) 0 [.slice (some ⟨g, 0, none⟩) N N, .slice (some ⟨h, 0, none⟩) M M] HA2.out)
  have HG3 := Lib.hid (show OwnRow outCs 10 OutS.parts 75 W3 (w.heap.size + 4) (.slice (some ⟨g, 0, none⟩) N N) os by rw [hW3]; exact OwnRow.low (ownRow_far (ownRow_far HOG.out (by have := HLT.out; omega) 0 _) (by have := HLT.out; omega) 1 _) (by have := HLT.out; omega))
  have HH3 := Lib.hid (show OwnRow inCs 11 InS.parts 95 W3 (w.heap.size + 4) (.slice (some ⟨h, 0, none⟩) M M) is by rw [hW3]; exact OwnRow.low (ownRow_far (ownRow_far HOH.out (by have := HLT.out; omega) 0 _) (by have := HLT.out; omega) 1 _) (by have := HLT.out; omega))
  rw [← hW3]
  clear hW3 p0 p1 f0 f1 z0 HA2 H02 H12 H22 H32 HLT HOG HOH CL
  have p0 := H03.out.cell (j := 0) rfl
  have p1 := H03.out.cell (j := 1) rfl
  have z0 := H03.out.lt
  have z1 := H13.out.lt
  have z2 := H23.out.lt
  have z3 := H33.out.lt
  have e0 := H33.out.cell (j := 0) rfl
  have e1 := H33.out.cell (j := 1) rfl
  have f0 := H33.out.free 0
  have f1 := H33.out.free 1
  have q0 := H23.out.cell (j := 0) rfl
  have q1 := H23.out.cell (j := 1) rfl
  have q2 := H23.out.cell (j := 2) rfl
  have q3 := H23.out.cell (j := 3) rfl
  have q4 := H23.out.cell (j := 4) rfl
  have q5 := H23.out.cell (j := 5) rfl
  have q6 := H23.out.cell (j := 6) rfl
  have q7 := H23.out.cell (j := 7) rfl
  have q8 := H23.out.cell (j := 8) rfl
  have q9 := H23.out.cell (j := 9) rfl
  subst hc hs
  go_wp2_with fail
  refine (CK.out _).mono ?_
  rintro e w4 ⟨rfl, hb4⟩
  have HB4 := Lib.hid hb4
  clear hb4 p0 p1 z0 z1 z2 z3 e0 e1 f0 f1 q0 q1 q2 q3 q4 q5 q6 q7 q8 q9 CK
  have p0 := (H03.out.on HB4.out).cell (j := 0) rfl
  have p1 := (H03.out.on HB4.out).cell (j := 1) rfl
  have z0 := (H03.out.on HB4.out).lt
  have z1 := (H13.out.on HB4.out).lt
  have z2 := (H23.out.on HB4.out).lt
  have z3 := (H33.out.on HB4.out).lt
  have e0 := (H33.out.on HB4.out).cell (j := 0) rfl
  have e1 := (H33.out.on HB4.out).cell (j := 1) rfl
  have f0 := (H33.out.on HB4.out).free 0
  have f1 := (H33.out.on HB4.out).free 1
  have q0 := (H23.out.on HB4.out).cell (j := 0) rfl
  have q1 := (H23.out.on HB4.out).cell (j := 1) rfl
  have q2 := (H23.out.on HB4.out).cell (j := 2) rfl
  have q3 := (H23.out.on HB4.out).cell (j := 3) rfl
  have q4 := (H23.out.on HB4.out).cell (j := 4) rfl
  have q5 := (H23.out.on HB4.out).cell (j := 5) rfl
  have q6 := (H23.out.on HB4.out).cell (j := 6) rfl
  have q7 := (H23.out.on HB4.out).cell (j := 7) rfl
  have q8 := (H23.out.on HB4.out).cell (j := 8) rfl
  have q9 := (H23.out.on HB4.out).cell (j := 9) rfl
  have s1 := (H13.out.on HB4.out).cell (j := 1) rfl
  have s0 := (H13.out.on HB4.out).cell (j := 0) rfl
  have s2 := (H13.out.on HB4.out).cell (j := 2) rfl
  go_wp2_with fail
  have HJ := Lib.hid (show BS w4.drew w4.drew.heap.size (.slice A n c) bl from (show BS w4 w4.heap.size (.slice A n c) bl by have h := HBV.out.below (HA3.out.trans (HB4.out.mono HA3.out.size)); exact h.more (Nat.le_trans HA3.out.size HB4.out.size)))
  have n3 := Ne.symm (show w.heap.size ≠ w.heap.size + 1 + 1 + 1 by omega)
  have n4 := Ne.symm (show w.heap.size + 1 ≠ w.heap.size + 1 + 1 + 1 by omega)
  have n5 := Ne.symm (show w.heap.size + 1 + 1 ≠ w.heap.size + 1 + 1 + 1 by omega)
  have n6 := Ne.symm (show w.heap.size ≠ w.heap.size + 1 + 1 by omega)
  have n7 := Ne.symm (show w.heap.size ≠ w.heap.size + 1 by omega)
  go_region_held3 (fun w' => w'.cell? ⟨w.heap.size, 0, none⟩ = some (.slice (some ⟨g, 0, none⟩) N N) ∧ w'.cell? ⟨w.heap.size, 1, none⟩ = some (.slice (some ⟨h, 0, none⟩) M M) ∧ w'.cell? ⟨w.heap.size + 1, 0, none⟩ = some (.int .u16 (isrc : Int)) ∧ w'.cell? ⟨w.heap.size + 1, 1, none⟩ = some (.int .u32 (iv : Int)) ∧ w'.cell? ⟨w.heap.size + 1, 2, none⟩ = some (.int .u32 (seq : Int)) ∧ w'.cell? ⟨w.heap.size + 1 + 1, 2, none⟩ = some (.bool ap) ∧ w'.cell? ⟨w.heap.size + 1 + 1, 9, none⟩ = some (.slice A n c)) (go_keep)
    (first
      | (go_at_call 35; refine (join1 _ bl w4.drew HJ.out (by rw [Hn.out]; have := HBL.out; omega) _).mono ?_; rintro e w5 ⟨hb5', x, rfl, hx⟩
         have hb5 : Below w4.heap.size w4 w5 := ((Below.refl _ _).drew).trans hb5'
         have hc5 := bfar w4.heap.size hb5 (Nat.le_refl _)
         have hf5 := blowf hb5
         have hz5 : w.heap.size + 1 + 1 + 1 < w5.heap.size := Nat.lt_of_lt_of_le z3 hb5.size
         have y5 : w.heap.size + 1 + 1 < w5.heap.size := Nat.lt_of_succ_lt hz5
         have x5 : w.heap.size + 1 < w5.heap.size := Nat.lt_of_succ_lt y5
         have v5 : w.heap.size < w5.heap.size := Nat.lt_of_succ_lt x5
         have e50 := ((H33.out.on HB4.out).on hb5).cell (j := 0) rfl
         have e51 := ((H33.out.on HB4.out).on hb5).cell (j := 1) rfl
         have f50 := ((H33.out.on HB4.out).on hb5).free 0
         have f51 := ((H33.out.on HB4.out).on hb5).free 1
         obtain ⟨A5, c5, rfl⟩ := own_slice hx))
  all_goals
    have HB5 := Lib.hid hb5
    have HX5 := Lib.hid (show w5.ownsRow w4.heap.size 5 1 (.slice A5 bl.length c5) bl.length (bys bl) from hx)
    clear hb5 hb5' hc5 hf5 hz5 y5 x5 v5 e50 e51 f50 f51 hx HJ n3 n4 n5 n6 n7 p0 p1 e0 e1 f0 f1 q0 q1 q2 q3 q4 q5 q6 q7 q8 q9 s0 s1 s2
    rw [Hn.out] at HX5
    rw [Hn.out]
    go_wp2_with fail
    obtain ⟨Y, hY⟩ : ∃ Y, Y = w5.setCells (w.heap.size + 1 + 1 + 1) 0 [.slice (some ⟨g, 0, none⟩) N N, .slice (some ⟨h, 0, none⟩) M M] := ⟨_, rfl⟩
    have hYs : Y.heap.size = w5.heap.size := by rw [hY]; exact size_puts _ _ _ _
    have hYB : Below w.heap.size w Y := by rw [hY]; exact below_puts (b := w.heap.size + 1 + 1 + 1) (by omega) 0 [.slice (some ⟨g, 0, none⟩) N N, .slice (some ⟨h, 0, none⟩) M M] ((HA3.out.trans (HB4.out.mono HA3.out.size)).trans (HB5.out.mono (Nat.le_trans HA3.out.size HB4.out.size)))
    have hYX : Y.ownsRow w4.heap.size 5 1 (.slice A5 n c5) n (bys bl) := by rw [hY]; exact own_far (own_far HX5.out z3 0 _) z3 1 _
    have hYR : Box Y (w.heap.size + 1 + 1 + 1) [.slice (some ⟨g, 0, none⟩) N N, .slice (some ⟨h, 0, none⟩) M M] := by rw [hY]; exact ((H33.out.on HB4.out).on HB5.out).put [.slice (some ⟨g, 0, none⟩) N N, .slice (some ⟨h, 0, none⟩) M M] rfl
    have hYG : OwnRow outCs 10 OutS.parts 75 Y (w.heap.size + 4) (.slice (some ⟨g, 0, none⟩) N N) os := by rw [hY]; exact ownRow_far (ownRow_far ((HG3.out.on HB4.out).on HB5.out) (by omega) 0 _) (by omega) 1 _
    have hYH : OwnRow inCs 11 InS.parts 95 Y (w.heap.size + 4) (.slice (some ⟨h, 0, none⟩) M M) is := by rw [hY]; exact ownRow_far (ownRow_far ((HH3.out.on HB4.out).on HB5.out) (by omega) 0 _) (by omega) 1 _
    rw [show (w5.setCell ⟨w.heap.size + 1 + 1 + 1, 0, none⟩ (.slice (some ⟨g, 0, none⟩) N N)).setCell ⟨w.heap.size + 1 + 1 + 1, 1, none⟩ (.slice (some ⟨h, 0, none⟩) M M) = Y from hY.symm]
    clear hY
    refine bodyPost_ret (res_tr3 rfl _ _ (w.heap.size + 1 + 1 + 1) (.slice (some ⟨g, 0, none⟩) N N) (.slice (some ⟨h, 0, none⟩) M M) rfl ?_) rfl (HQ.out _ _ ⟨?_, _, _, _, by rw [HR.out]; rfl, ?_, ?_, ?_⟩)
    · exact hYR.alloc _
    · exact hYB.alloc hYB.size _
    · exact (hYG.on (al1 _ _)).upto (by omega)
    · rw [HR.out]; exact (hYH.on (al1 _ _)).upto (by omega)
    · rw [HR.out]
      dsimp only
      rw [← hYs]
      exact accs_one ⟨src, dst, ap, ttl, isrc, iv, seq⟩ bl A5 n c5 _ hYB.size (show BS2 Y w.heap.size Y.heap.size (.slice A5 n c5) bl from by have h := (Sl2.of_own hYX).mono (Nat.le_trans HA3.out.size HB4.out.size) (Nat.le_refl _); rw [← Hn.out] at h ⊢; exact h)
end Go.Proofs.Ytkpjinkkjbljkaa
