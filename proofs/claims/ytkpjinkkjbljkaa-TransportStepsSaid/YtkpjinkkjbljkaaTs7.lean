/- The walk of transport.Send. No condition. -/
import Derived.Test.YtkpjinkkjbljkaaTs6
namespace Go.Proofs.Ytkpjinkkjbljkaa
open Go.RowKit

def slLen : Value → Nat | .slice _ n _ => n | _ => 0
theorem rowV_form {α : Type} {f : α → Value → List Value} {m : Nat} {pf : α → List (List UInt8)} {w : World} {B : Nat} {v : Value} {os : List α} (h : RowV f m pf w B v os) : ∃ A c, v = .slice A os.length c := by
  obtain ⟨vs, _, ⟨A, c, rfl, _⟩, _⟩ := h
  exact ⟨A, c, rfl⟩
theorem ownRow_far {α : Type} {f : α → Value → List Value} {m b : Nat} {pf : α → List (List UInt8)} {t : TypeId} {w : World} {base : Nat} {v : Value} {os : List α} (h : OwnRow f m pf t w base v os) (hb : b < base) (j : Nat) (x : Value) : OwnRow f m pf t (w.setCell ⟨b, j, none⟩ x) base v os := by
  obtain ⟨vs, h1, h2⟩ := h
  exact ⟨vs, own_far h1 hb j x, h2.far hb j x⟩
theorem OwnRow.grown {α : Type} {f : α → Value → List Value} {m : Nat} {pf : α → List (List UInt8)} {t : TypeId} {w w' : World} {base : Nat} {v : Value} {os : List α} {base' size' n' : Nat} {e' : TypeId} {x : Value} {ys : List Value} (h : OwnRow f m pf t w base v os) (h' : w.ownsRow base' e' size' x n' ys) (h0 : t ≠ e') (h1 : 23 ≠ e') (h2 : 5 ≠ e') (hg : w.grownBy w' x.ownBlock) : OwnRow f m pf t w' base v os := by
  obtain ⟨vs, k1, k2⟩ := h
  exact ⟨vs, own_grown_type k1 h' h0 hg, k2.grown h' h1 h2 hg⟩
theorem OwnLows.grown {w w' : World} {base : Nat} {v : Value} {ps : List (Low × List UInt8)} {base' size' n' : Nat} {e' : TypeId} {x : Value} {ys : List Value} (h : OwnLows w base v ps) (h' : w.ownsRow base' e' size' x n' ys) (h0 : 25 ≠ e') (h2 : 5 ≠ e') (hg : w.grownBy w' x.ownBlock) : OwnLows w' base v ps := by
  obtain ⟨vs, k1, k2, k3⟩ := h
  exact ⟨vs, k1, own_grown_type k2 h' h0 hg, fun k p u hp hu => own_grown_type (k3 k p u hp hu) h' h2 hg⟩
set_option maxRecDepth 100000 in
set_option maxHeartbeats 8000000 in
theorem send_any (os : List OutS) (is : List InS) (a : AccS) (l : List UInt8) (now : Int) (hl : l.length ≤ 65536) (hs : a.seq < 4294967296) (hnow : now ≤ 4611686018427387904) (hnow' : 0 ≤ now) (v u bv : Value) (w : World) (hv : RowV outCs 10 OutS.parts w w.heap.size v os) (hu : RowV inCs 11 InS.parts w w.heap.size u is) (hbv : BS w w.heap.size bv l)
    (ho : Sized (os.map OutS.parts)) (hi : Sized (is.map InS.parts)) : Calls Try.prog 22 #[.agg #[v, u], accV a bv, .int .i64 now] w (SendPost os is a l now w) := by
  obtain ⟨A1, c1, rfl⟩ := rowV_form hv
  obtain ⟨A2, c2, rfl⟩ := rowV_form hu
  obtain ⟨A, c, rfl, _⟩ := id hbv
  have hoN : os.length ≤ 65536 := by have := ho.1; simpa using this
  have CR := Lib.hid (fun (W : World) (hW : Below w.heap.size w W) => refuse_any os a A l.length c (by omega) hs (.slice A1 os.length c1) (.slice A2 is.length c2) W (hv.on hW) hoN ⟨_, _, _, rfl⟩)
  have CL := Lib.hid (fun (W : World) (hW : Below w.heap.size w W) => clone_any os is (.slice A1 os.length c1) (.slice A2 is.length c2) W (hv.on hW) (hu.on hW) ho hi)
  have HBV := Lib.hid hbv
  have HR := Lib.hid (show refuseN os a l.length = refuseN os a l.length from rfl)
  have HQ := Lib.hid (show ∀ (e : Ending) (w' : World), (Below w.heap.size w w' ∧ ∃ v u x, e = .returned (.tuple #[.agg #[v, u], x, .int .i64 (refuseN os a l.length)]) ∧
    RowV2 outCs 10 OutS.parts w' w.heap.size w'.heap.size v (sendO os a l now) ∧ RowV2 inCs 11 InS.parts w' w.heap.size w'.heap.size u is ∧ LowsV2 w' w.heap.size w'.heap.size x (sendL os a l now)) → SendPost os is a l now w e w' from fun _ _ h => h)
  have HSO := Lib.hid (show sendO os a l now = if refuseN os a l.length = 0 ∧ 15 < l.length then os ++ [mOut a l now] else os from rfl)
  have HSL := Lib.hid (show sendL os a l now = if refuseN os a l.length ≠ 0 then [] else if l.length ≤ 15 then [(⟨false, false, a.app, 0, 0, 0, 0, 0, false⟩, l)] else segs a l now (cntP l) from rfl)
  generalize hQ : SendPost os is a l now w = Q at *
  generalize refuseN os a l.length = R at *
  generalize sendO os a l now = SO at *
  generalize sendL os a l now = SL at *
  generalize hN : os.length = N at *
  generalize hM : is.length = M at *
  generalize hn : l.length = n at *
  have HN := Lib.hid hN
  have HM := Lib.hid hM
  have Hn := Lib.hid hn
  clear hQ hN hM hn hv hu hbv ho hi HR
  obtain ⟨src, dst, app, ttl, ssrc, iv, seq⟩ := a
  go_enter Try.func22, Try.ntmps22
  go_upto_region 1 with fail
  dsimp only at hs
  obtain ⟨W, hW⟩ : ∃ W, W = ((w.alloc (.cells #[.slice A1 N c1, .slice A2 M c2] 47)).alloc (.cells #[.int .u16 (src : Int), .int .u16 (dst : Int), .bool app, .int .i64 ttl, .int .u16 (ssrc : Int), .int .u32 (iv : Int), .int .u32 (seq : Int), .slice A n c] 43)).alloc (.cells #[.slice none 0 0, .slice none 0 0] 47) := ⟨_, rfl⟩
  have hA : Below w.heap.size w W := by rw [hW]; exact al3 _ _ _ _
  have hb0 : Box W w.heap.size [.slice A1 N c1, .slice A2 M c2] := by rw [hW]; exact ((Box.new _ _ _).alloc _).alloc _
  have hb1 : Box W (w.heap.size + 1) (accCs ⟨src, dst, app, ttl, ssrc, iv, seq⟩ (.slice A n c)) := ⟨43, by rw [hW, heap_al, if_neg (by simp), heap_al, if_pos (by simp)]⟩
  have hb2 : Box W (w.heap.size + 1 + 1) [.slice none 0 0, .slice none 0 0] := ⟨47, by rw [hW, heap_al, if_pos (by simp)]⟩
  rw [← hW]
  clear hW
  have HA := Lib.hid hA
  have H0 := Lib.hid hb0
  have H1 := Lib.hid hb1
  have H2 := Lib.hid hb2
  have p0 := hb0.cell (j := 0) rfl
  have p1 := hb0.cell (j := 1) rfl
  have q0 := hb1.cell (j := 0) rfl
  have q1 := hb1.cell (j := 1) rfl
  have q2 := hb1.cell (j := 2) rfl
  have q3 := hb1.cell (j := 3) rfl
  have q4 := hb1.cell (j := 4) rfl
  have q5 := hb1.cell (j := 5) rfl
  have q6 := hb1.cell (j := 6) rfl
  have q7 := hb1.cell (j := 7) rfl
  dsimp only at q0 q1 q2 q3 q4 q5 q6
  clear hA hb0 hb1 hb2
  go_wp2_with fail
  refine (CR.out _ HA.out).mono ?_
  rintro e w1 ⟨rfl, hb1⟩
  have HA1 := Lib.hid (HA.out.trans (hb1.mono HA.out.size))
  have H01 := Lib.hid (H0.out.on hb1)
  have H11 := Lib.hid (H1.out.on hb1)
  have H21 := Lib.hid (H2.out.on hb1)
  clear hb1 p0 p1 q0 q1 q2 q3 q4 q5 q6 q7 HA H0 H1 H2
  have p0 := H01.out.cell (j := 0) rfl
  have p1 := H01.out.cell (j := 1) rfl
  go_wp2_with fail
  refine (CL.out _ HA1.out).mono ?_
  rintro e w2 ⟨hb2, g, h, rfl, hog, hoh⟩
  rw [HN.out] at hog
  rw [HM.out] at hoh
  have HA2 := Lib.hid (HA1.out.trans (hb2.mono HA1.out.size))
  have H02 := Lib.hid (H01.out.on hb2)
  have H12 := Lib.hid (H11.out.on hb2)
  have H22 := Lib.hid (H21.out.on hb2)
  have HLT := Lib.hid H21.out.lt
  have HOG := Lib.hid hog
  have HOH := Lib.hid hoh
  clear hb2 hog hoh p0 p1 HA1 H01 H11 H21
  have p0 := H02.out.cell (j := 0) rfl
  have p1 := H02.out.cell (j := 1) rfl
  have f0 := H02.out.free 0
  have f1 := H02.out.free 1
  have z0 := H02.out.lt
  rw [HN.out, HM.out]
  go_upto_region 3 with fail
  obtain ⟨W3, hW3⟩ : ∃ W3, W3 = (w2.setCell ⟨w.heap.size, 0, none⟩ (.slice (some ⟨g, 0, none⟩) N N)).setCell ⟨w.heap.size, 1, none⟩ (.slice (some ⟨h, 0, none⟩) M M) := ⟨_, rfl⟩
  have H03 := Lib.hid (show Box W3 w.heap.size [.slice (some ⟨g, 0, none⟩) N N, .slice (some ⟨h, 0, none⟩) M M] by rw [hW3]; exact H02.out.put [.slice (some ⟨g, 0, none⟩) N N, .slice (some ⟨h, 0, none⟩) M M] rfl)
  have H13 := Lib.hid (show Box W3 (w.heap.size + 1) (accCs ⟨src, dst, app, ttl, ssrc, iv, seq⟩ (.slice A n c)) by rw [hW3]; exact H12.out.puts_far (by omega) 0 [.slice (some ⟨g, 0, none⟩) N N, .slice (some ⟨h, 0, none⟩) M M])
  have H23 := Lib.hid (show Box W3 (w.heap.size + 1 + 1) [.slice none 0 0, .slice none 0 0] by rw [hW3]; exact H22.out.puts_far (by omega) 0 [.slice (some ⟨g, 0, none⟩) N N, .slice (some ⟨h, 0, none⟩) M M])
  have HA3 := Lib.hid (show Below w.heap.size w W3 by rw [hW3]; exact below_puts (b := w.heap.size) (Nat.le_refl _) 0 [.slice (some ⟨g, 0, none⟩) N N, .slice (some ⟨h, 0, none⟩) M M] HA2.out)
  have HG3 := Lib.hid (show OwnRow outCs 10 OutS.parts 75 W3 (w.heap.size + 3) (.slice (some ⟨g, 0, none⟩) N N) os by rw [hW3]; exact OwnRow.low (ownRow_far (ownRow_far HOG.out (by have := HLT.out; omega) 0 _) (by have := HLT.out; omega) 1 _) (by have := HLT.out; omega))
  have HH3 := Lib.hid (show OwnRow inCs 11 InS.parts 95 W3 (w.heap.size + 3) (.slice (some ⟨h, 0, none⟩) M M) is by rw [hW3]; exact OwnRow.low (ownRow_far (ownRow_far HOH.out (by have := HLT.out; omega) 0 _) (by have := HLT.out; omega) 1 _) (by have := HLT.out; omega))
  rw [← hW3]
  clear hW3 p0 p1 f0 f1 z0 HA2 H02 H12 H22 HLT HOG HOH CL CR
  have p0 := H03.out.cell (j := 0) rfl
  have p1 := H03.out.cell (j := 1) rfl
  have z0 := H03.out.lt
  have z2 := H23.out.lt
  have e0 := H23.out.cell (j := 0) rfl
  have e1 := H23.out.cell (j := 1) rfl
  have f0 := H23.out.free 0
  have f1 := H23.out.free 1
  by_cases hR : R ≠ 0
  · have hR' := ne_bool hR
    have HSO1 := Lib.hid (show SO = os by rw [HSO.out, if_neg (fun h => hR h.1)])
    have HSL1 := Lib.hid (show SL = [] by rw [HSL.out, if_pos hR])
    clear hR HSO HSL
    go_wp2_with fail
    refine bodyPost_ret (res_tr3 rfl _ _ (w.heap.size + 1 + 1) (.slice (some ⟨g, 0, none⟩) N N) (.slice (some ⟨h, 0, none⟩) M M) rfl ?_) rfl (HQ.out _ _ ⟨?_, _, _, _, rfl, ?_, ?_, ?_⟩)
    · exact H23.out.put [.slice (some ⟨g, 0, none⟩) N N, .slice (some ⟨h, 0, none⟩) M M] rfl
    · exact below_puts (b := w.heap.size + 1 + 1) (by omega) 0 [.slice (some ⟨g, 0, none⟩) N N, .slice (some ⟨h, 0, none⟩) M M] HA3.out
    · rw [HSO1.out]; exact (ownRow_far (ownRow_far HG3.out (by omega) 0 _) (by omega) 1 _).upto (by omega)
    · exact (ownRow_far (ownRow_far HH3.out (by omega) 0 _) (by omega) 1 _).upto (by omega)
    · rw [HSL1.out]; exact ManyV2.nil _ _ _
  · obtain rfl : R = 0 := by omega
    have q7 := H13.out.cell (j := 7) rfl
    have q2 := H13.out.cell (j := 2) rfl
    have z1 := H13.out.lt
    by_cases h15 : n ≤ 15
    · have HSO1 := Lib.hid (show SO = os by rw [HSO.out, if_neg (fun h => by omega)])
      have HSL1 := Lib.hid (show SL = [(⟨false, false, app, 0, 0, 0, 0, 0, false⟩, l)] by rw [HSL.out, if_neg hR, if_pos h15])
      clear hR HSO HSL
      go_wp2_with fail
      have HJ := Lib.hid (show BS W3.drew W3.drew.heap.size (.slice A n c) l from (show BS W3 W3.heap.size (.slice A n c) l by have h := HBV.out.below HA3.out; exact h.more HA3.out.size))
      have nz := Ne.symm (show w.heap.size ≠ w.heap.size + 1 + 1 by omega)
      have nz1 := Ne.symm (show w.heap.size + 1 ≠ w.heap.size + 1 + 1 by omega)
      go_region_held3 (fun w' => w'.cell? ⟨w.heap.size, 0, none⟩ = some (.slice (some ⟨g, 0, none⟩) N N) ∧ w'.cell? ⟨w.heap.size, 1, none⟩ = some (.slice (some ⟨h, 0, none⟩) M M) ∧ w'.cell? ⟨w.heap.size + 1, 2, none⟩ = some (.bool app) ∧ w'.cell? ⟨w.heap.size + 1, 7, none⟩ = some (.slice A n c)) (go_keep)
        (first
          | (go_at_call 35; refine (join1 _ l W3.drew HJ.out (by rw [Hn.out]; omega) _).mono ?_; rintro e w4 ⟨hb4', x, rfl, hx⟩
             have hb4 : Below W3.heap.size W3 w4 := ((Below.refl _ _).drew).trans hb4'
             have hc4 := bfar W3.heap.size hb4 (Nat.le_refl _)
             have hf4 := blowf hb4
             have hz4 : w.heap.size + 1 + 1 < w4.heap.size := Nat.lt_of_lt_of_le z2 hb4.size
             have y4 : w.heap.size + 1 < w4.heap.size := Nat.lt_of_succ_lt hz4
             have x4 : w.heap.size < w4.heap.size := Nat.lt_of_succ_lt y4
             have e40 := (H23.out.on hb4).cell (j := 0) rfl
             have e41 := (H23.out.on hb4).cell (j := 1) rfl
             have f40 := (H23.out.on hb4).free 0
             have f41 := (H23.out.on hb4).free 1
             obtain ⟨A4, c4, rfl⟩ := own_slice hx))
      all_goals
        have HB4 := Lib.hid hb4
        have HX4 := Lib.hid (show w4.ownsRow W3.heap.size 5 1 (.slice A4 l.length c4) l.length (bys l) from hx)
        clear hb4 hb4' hc4 hf4 hz4 y4 x4 e40 e41 f40 f41 hx HJ nz nz1
        go_wp2_with fail
        obtain ⟨Y, hY⟩ : ∃ Y, Y = w4.setCells (w.heap.size + 1 + 1) 0 [.slice (some ⟨g, 0, none⟩) N N, .slice (some ⟨h, 0, none⟩) M M] := ⟨_, rfl⟩
        have hYs : Y.heap.size = w4.heap.size := by rw [hY]; exact size_puts _ _ _ _
        have hYB : Below w.heap.size w Y := by rw [hY]; exact below_puts (b := w.heap.size + 1 + 1) (by omega) 0 [.slice (some ⟨g, 0, none⟩) N N, .slice (some ⟨h, 0, none⟩) M M] (HA3.out.trans (HB4.out.mono HA3.out.size))
        have hYX : Y.ownsRow W3.heap.size 5 1 (.slice A4 l.length c4) l.length (bys l) := by rw [hY]; exact own_far (own_far HX4.out z2 0 _) z2 1 _
        have hYR : Box Y (w.heap.size + 1 + 1) [.slice (some ⟨g, 0, none⟩) N N, .slice (some ⟨h, 0, none⟩) M M] := by rw [hY]; exact (H23.out.on HB4.out).put [.slice (some ⟨g, 0, none⟩) N N, .slice (some ⟨h, 0, none⟩) M M] rfl
        have hYG : OwnRow outCs 10 OutS.parts 75 Y (w.heap.size + 3) (.slice (some ⟨g, 0, none⟩) N N) os := by rw [hY]; exact ownRow_far (ownRow_far (HG3.out.on HB4.out) (by omega) 0 _) (by omega) 1 _
        have hYH : OwnRow inCs 11 InS.parts 95 Y (w.heap.size + 3) (.slice (some ⟨h, 0, none⟩) M M) is := by rw [hY]; exact ownRow_far (ownRow_far (HH3.out.on HB4.out) (by omega) 0 _) (by omega) 1 _
        rw [show (w4.setCell ⟨w.heap.size + 1 + 1, 0, none⟩ (.slice (some ⟨g, 0, none⟩) N N)).setCell ⟨w.heap.size + 1 + 1, 1, none⟩ (.slice (some ⟨h, 0, none⟩) M M) = Y from hY.symm]
        clear hY
        refine bodyPost_ret (res_tr3 rfl _ _ (w.heap.size + 1 + 1) (.slice (some ⟨g, 0, none⟩) N N) (.slice (some ⟨h, 0, none⟩) M M) rfl ?_) rfl (HQ.out _ _ ⟨?_, _, _, _, rfl, ?_, ?_, ?_⟩)
        · exact hYR.alloc _
        · exact hYB.alloc hYB.size _
        · rw [HSO1.out]; exact (hYG.on (al1 _ _)).upto (by omega)
        · exact (hYH.on (al1 _ _)).upto (by omega)
        · rw [HSL1.out, ← hYs]
          have h1 := Sl2.lit (size := 10) Y #[.bool false, .bool false, .bool app, .int .i64 0, .int .i64 0, .int .i64 0, .int .i64 0, .int .u32 0, .bool false, .slice A4 l.length c4] 25 1 rfl (by simp [maxLen])
          refine ⟨[.slice A4 l.length c4], rfl, h1.mono hYB.size (by simp), fun k p u hp hu => ?_⟩
          match k, hp, hu with
          | 0, hp, hu =>
            simp only [List.getElem?_cons_zero, Option.some.injEq] at hp hu
            subst hp hu
            exact ((BS2.of_own hYX).below (al1 _ _)).mono HA3.out.size (by simp)
    · have HSO1 := Lib.hid (show SO = os ++ [mOut ⟨src, dst, app, ttl, ssrc, iv, seq⟩ l now] by rw [HSO.out, if_pos ⟨rfl, by omega⟩])
      have HSL1 := Lib.hid (show SL = segs ⟨src, dst, app, ttl, ssrc, iv, seq⟩ l now (cntP l) by rw [HSL.out, if_neg hR, if_neg h15])
      have q0 := H13.out.cell (j := 0) rfl
      have q1 := H13.out.cell (j := 1) rfl
      have q3 := H13.out.cell (j := 3) rfl
      have q5 := H13.out.cell (j := 5) rfl
      have q6 := H13.out.cell (j := 6) rfl
      have hw20 : IntKind.i64.wrap (now + 20) = now + 20 := IntWalk.i64_in _ (by omega)
      have hcnt := Lib.hid (show cntP l = (n + 11) / 12 by unfold cntP; rw [Hn.out])
      generalize hC : cntP l = C at *
      have HC := Lib.hid hC
      clear hR HSO HSL hC e0 e1 f0 f1
      go_wp2_with fail
      have hb10 := Box.new W3 #[.int .u16 (dst : Int), .int .u16 (src : Int), .bool app, .int .u32 (seq : Int), .int .u32 (iv : Int), .slice none 0 0, .int .u32 0, .int .i64 (now + 20), .int .i64 1, .int .i64 ttl] 75
      have H10 := Lib.hid hb10
      have HW4 := Lib.hid (show Below W3.heap.size W3 (W3.alloc (.cells #[.int .u16 (dst : Int), .int .u16 (src : Int), .bool app, .int .u32 (seq : Int), .int .u32 (iv : Int), .slice none 0 0, .int .u32 0, .int .i64 (now + 20), .int .i64 1, .int .i64 ttl] 75)) from al1 _ _)
      clear hb10 q0 q1 q2 q3 q5 q6 q7 hw20 p0 p1
      go_loopw [11] (fun v11 wr => ∃ (k r : Nat) (A' : Option Addr) (c' : Nat) (pv : Value), k ≤ C ∧ r = n - 12 * k ∧ v11 = .slice A' r c' ∧ BS w w.heap.size (.slice A' r c') (l.drop (12 * k)) ∧ Box wr W3.heap.size (outCs ⟨dst, src, app, seq, iv, [], 0, now + 20, 1, ttl⟩ pv) ∧ OwnParts wr (W3.heap.size + 1) pv (chunks l k) ∧ Below W3.heap.size W3 wr) (fun v11 _ => slLen v11)
      case atStart => exact ⟨0, n, A, c, .slice none 0 0, Nat.zero_le _, by omega, rfl, by simpa using HBV.out, H10.out, ⟨[], by simp [chunks], by simpa [chunks] using World.ownsRow_nil _ _ _ _, fun _ _ _ h => by simp at h⟩, HW4.out⟩
      clear H10 HW4
      case round =>
        obtain ⟨k, r, A', c', pv, hk, hr, rfl, hq, hbx, hpv, hbel⟩ := hrel
        have HRK := Lib.hid hr
        have HB := Lib.hid hbel
        have HBX := Lib.hid hbx
        have HPV := Lib.hid hpv
        have hql : (l.drop (12 * k)).length = r := by rw [List.length_drop, Hn.out, hr]
        have hpl : (chunks l k).length = k := chunks_len l k
        by_cases hr0 : 0 < r
        · have hch : chunk l k = (l.drop (12 * k)).take (min 12 r) := by
            unfold chunk
            rcases Nat.le_total 12 r with h | h
            · rw [Nat.min_eq_left h]
            · rw [Nat.min_eq_right h, List.take_of_length_le (by omega), List.take_of_length_le (by omega)]
          obtain ⟨m, hm⟩ : ∃ m, m = min 12 r := ⟨_, rfl⟩
          have hm1 : m ≤ 12 := by omega
          have hm2 : m ≤ r := by omega
          have hm0 : 0 < m := by omega
          rw [← hm] at hch
          have hmm : (if (r : Int) < 12 then (r : Int) else 12) = (m : Int) := by split <;> omega
          have HM1 := Lib.hid hm
          have HCH := Lib.hid hch
          obtain ⟨us, k1, k2, k3⟩ := hpv
          obtain ⟨A5, c5, hpf⟩ := own_form k2
          rw [hpl] at hpf k1
          subst hpf
          rw [hpl] at k2
          have e5 := hbx.cell (j := 5) rfl
          have f5 := hbx.free 5
          have z5 := hbx.lt
          have hqe : ∃ bq oq, A' = some ⟨bq, oq, none⟩ := by
            obtain ⟨bq, oq, cq, hqe, _⟩ := Sl.at_ hq (bys_at (k := 0) (by omega))
            injection hqe with hqe1 _ _
            exact ⟨bq, oq, hqe1⟩
          obtain ⟨bq, oq, rfl⟩ := hqe
          have hqq := hq
          rw [← hql] at hq
          have HFR := Lib.hid (hq.front (k := m) (by omega))
          have HFL := Lib.hid (show ((l.drop (12 * k)).take m).length = m by rw [List.length_take]; omega)
          have HQ1 := Lib.hid hqq
          generalize (l.drop (12 * k)).take m = mk at *
          clear hq hqq hbx hbel hr hm hch
          have HJ := Lib.hid (show BS wr wr.heap.size (.slice (some ⟨bq, oq, none⟩) m c') mk from ((HFR.out.below (HA3.out.trans (HB.out.mono HA3.out.size))).more (Nat.le_trans HA3.out.size HB.out.size)))
          have hrc : r ≤ c' := by obtain ⟨_, _, e, h1, _⟩ := HQ1.out; injection e with _ _ e3; rw [← hql]; omega
          have hmc : m ≤ c' := by omega
          have HK := Lib.hid (show us.length = k ∧ wr.ownsRow (W3.heap.size + 1) 23 1 (.slice A5 k c5) k us from ⟨k1, k2⟩)
          have HK3 := Lib.hid k3
          have HQL := Lib.hid hql
          clear k1 k2 k3 hql hpl
          go_wp2_with fail
          go_region_law
            (first
              | (refine step_sl _ elP rfl (.tmp 64) (.tmp 72) rfl rfl (own_on (own_on HK.out.2 hb4) (al1 _ _)) rfl (Sl.lit _ _ _ 1 rfl (by simp [maxLen])) ?_ ?_ ?_ ?_
                 (case refine_1 => intro u hu; simp at hu; subst hu; rfl)
                 (case refine_2 => have := hcnt.out; omega)
                 (case refine_3 => exact Nat.le_trans (Nat.succ_le_of_lt z4) (by simp))
                 intro v5 w5 hown5 hg5 hnil5 hat5
                 have hb5 : Below (W3.heap.size + 1) w4 w5 := below_app ((Below.refl _ _).alloc (Nat.succ_le_of_lt z4) _) (own_on (own_on HK.out.2 hb4) (al1 _ _)) hg5 (Nat.le_refl _) (Nat.le_trans (Nat.succ_le_of_lt z4) (by simp))
                 have e55 := (((HBX.out.on hb4).keep hb5 (Nat.lt_succ_self _)).cell (j := 5) rfl)
                 have f55 := (((HBX.out.on hb4).keep hb5 (Nat.lt_succ_self _)).free 5)
                 have z55 := (((HBX.out.on hb4).keep hb5 (Nat.lt_succ_self _)).lt)
                 obtain ⟨A6, c6, rfl⟩ := own_form hown5)
              | (go_simp; refine (join1 _ mk wr.drew HJ.out (by rw [HFL.out]; omega) _).mono ?_; rintro e w4 ⟨hb4', x, rfl, hx⟩
                 have hb4 : Below wr.heap.size wr w4 := ((Below.refl _ _).drew).trans hb4'
                 have hc4 := bfar wr.heap.size hb4 (Nat.le_refl _)
                 have hf4 := blowf hb4
                 have z4 : W3.heap.size < w4.heap.size := Nat.lt_of_lt_of_le z5 hb4.size
                 obtain ⟨A4, c4, rfl⟩ := own_slice hx
                 go_simp))
          all_goals
            have HBF := Lib.hid (show Box (w5.setCell ⟨W3.heap.size, 5, none⟩ (.slice A6 (k + 1) c6)) W3.heap.size (outCs ⟨dst, src, app, seq, iv, [], 0, now + 20, 1, ttl⟩ (.slice A6 (k + 1) c6)) from ((HBX.out.on hb4).keep hb5 (Nat.lt_succ_self _)).set 5 _)
            have HBE := Lib.hid (show Below W3.heap.size W3 (w5.setCell ⟨W3.heap.size, 5, none⟩ (.slice A6 (k + 1) c6)) from ((HB.out.trans (hb4.mono HB.out.size)).trans (hb5.mono (Nat.le_succ _))).setCell (Nat.le_refl _) _)
            have HOP := Lib.hid (show OwnParts (w5.setCell ⟨W3.heap.size, 5, none⟩ (.slice A6 (k + 1) c6)) (W3.heap.size + 1) (.slice A6 (k + 1) c6) (chunks l (k + 1)) by
              have hlen : (us ++ [Value.slice A4 mk.length c4]).length = k + 1 := by simp [HK.out.1]
              refine ⟨us ++ [.slice A4 mk.length c4], by rw [hlen, chunks_len], by rw [chunks_len]; exact own_far hown5 (Nat.lt_succ_self _) 5 _, fun j u p hu hp => ?_⟩
              rw [chunks_succ] at hp
              by_cases hj : j < k
              · rw [List.getElem?_append_left (by rw [HK.out.1]; exact hj)] at hu
                rw [List.getElem?_append_left (by rw [chunks_len]; exact hj)] at hp
                exact own_far (own_grown_type ((own_on (HK3.out j u p hu hp) hb4).alloc _) ((own_on HK.out.2 hb4).alloc _) (by decide) hg5) (Nat.lt_succ_self _) 5 _
              · have hjk : j = k := by
                  have := (List.getElem?_eq_some_iff.1 hu).1
                  omega
                subst hjk
                rw [List.getElem?_append_right (by rw [HK.out.1]; exact Nat.le_refl _), HK.out.1, Nat.sub_self] at hu
                rw [List.getElem?_append_right (by rw [chunks_len]; exact Nat.le_refl _), chunks_len, Nat.sub_self] at hp
                simp only [List.getElem?_cons_zero, Option.some.injEq] at hu hp
                subst hu hp
                rw [HCH.out]
                have hx' : OB w4 (W3.heap.size + 1) (.slice A4 mk.length c4) mk := own_base hx (Nat.succ_le_of_lt z5)
                exact own_far (own_grown_type (hx'.alloc _) ((own_on HK.out.2 hb4).alloc _) (by decide) hg5) (Nat.lt_succ_self _) 5 _)
            clear hb4 hb4' hb5 hc4 hf4 z4 hx hown5 hg5 hnil5 hat5 e55 f55 z55
            go_wp2_with fail
            go_roundw
            case rel =>
              have hqd := HQ1.out
              rw [← HQL.out] at hqd
              have hcut := hqd.cut (k := m) (by rw [HQL.out]; exact hm2)
              rw [List.drop_drop, HQL.out] at hcut
              have hm12 : r - m = 0 ∨ m = 12 := by have := HM1.out; omega
              have hk1 : k + 1 ≤ C := by have := hcnt.out; have := HRK.out; omega
              have hdd : l.drop (12 * k + m) = l.drop (12 * (k + 1)) := by
                rcases hm12 with h | h
                · rw [List.drop_eq_nil_of_le (by have := Hn.out; have := HRK.out; omega), List.drop_eq_nil_of_le (by have := Hn.out; have := HRK.out; omega)]
                · rw [h, Nat.mul_succ]
              rw [hdd] at hcut
              exact ⟨k + 1, r - m, _, _, _, hk1, by have := HRK.out; omega, rfl, hcut, HBF.out, HOP.out, HBE.out⟩
            case measure => simp [slLen]; omega
        · have hkC : k = C := by have := hcnt.out; omega
          subst hkC
          obtain ⟨us, k1, k2, k3⟩ := hpv
          obtain ⟨A5, c5, hpf⟩ := own_form k2
          rw [hpl] at hpf
          subst hpf
          have e0 := hbx.cell (j := 0) rfl
          have e1 := hbx.cell (j := 1) rfl
          have e2 := hbx.cell (j := 2) rfl
          have e3 := hbx.cell (j := 3) rfl
          have e4 := hbx.cell (j := 4) rfl
          have e5 := hbx.cell (j := 5) rfl
          have z5 := hbx.lt
          obtain ⟨W5, rfl⟩ : ∃ W5 : World, W5 = wr := ⟨_, rfl⟩
          clear hq hbx hbel hr k1 k2 k3 hql hpl HRK
          have hkb : k ≤ 65536 := by have := hcnt.out; omega
          have hr00 : r = 0 := by omega
          subst hr00
          go_wp2_with fail
          go_loopw [12, 78] (fun v12 i wr => ∃ j : Nat, j ≤ k ∧ i = .int .i64 j ∧ OwnLows wr (W3.heap.size + 1) v12 (segs ⟨src, dst, app, ttl, ssrc, iv, seq⟩ l now j) ∧ Box wr W3.heap.size (outCs ⟨dst, src, app, seq, iv, [], 0, now + 20, 1, ttl⟩ (.slice A5 k c5)) ∧ OwnParts wr (W3.heap.size + 1) (.slice A5 k c5) (chunks l k) ∧ Below W3.heap.size W3 wr) (fun _ i _ => k - (intOf i).toNat)
          case atStart => exact ⟨0, Nat.zero_le _, rfl, by simpa [segs] using OwnLows.nil _ _, HBX.out, HPV.out, HB.out⟩
          case round =>
            obtain ⟨j, hj, rfl, hlo, hbx, hpv, hbel⟩ := hrel
            have HL6 := Lib.hid hlo
            have HX6 := Lib.hid hbx
            have HP6 := Lib.hid hpv
            have HB6 := Lib.hid hbel
            by_cases hjk : j < k
            · have d0 := hbx.cell (j := 0) rfl
              have d1 := hbx.cell (j := 1) rfl
              have d2 := hbx.cell (j := 2) rfl
              have d3 := hbx.cell (j := 3) rfl
              have d4 := hbx.cell (j := 4) rfl
              have d5 := hbx.cell (j := 5) rfl
              have d6 := hbx.cell (j := 6) rfl
              have d7 := hbx.cell (j := 7) rfl
              have d8 := hbx.cell (j := 8) rfl
              have d9 := hbx.cell (j := 9) rfl
              have y5 := hbx.lt
              dsimp only at d0 d1 d2 d3 d4 d6 d7 d8 d9
              have SG := Lib.hid (show Calls Try.prog 44 #[.agg #[.int .u16 (dst : Int), .int .u16 (src : Int), .bool app, .int .u32 (seq : Int), .int .u32 (iv : Int), .slice A5 k c5, .int .u32 0, .int .i64 (now + 20), .int .i64 1, .int .i64 ttl], .int .i64 (j : Int)] wr (SegPost wr (mOut ⟨src, dst, app, ttl, ssrc, iv, seq⟩ l now) j) from segment_any (mOut ⟨src, dst, app, ttl, ssrc, iv, seq⟩ l now) j (by show j < (chunks l (cntP l)).length; rw [chunks_len, HC.out]; exact hjk) (by show (chunks l (cntP l)).length ≤ _; rw [chunks_len, HC.out]; have := hcnt.out; omega)
                (by intro p hp; obtain ⟨i, _, rfl⟩ := List.mem_map.1 (show p ∈ (List.range (cntP l)).map (chunk l) from hp); have := chunk_le l i; omega) hs (.slice A5 k c5) wr (by show PartsV wr wr.heap.size _ (chunks l (cntP l)); rw [HC.out]; exact hpv.reads))
              clear hlo hbx hpv hbel
              go_wp2_with fail
              refine SG.out.mono ?_
              rintro e w6 ⟨hb6, x, rfl, hx⟩
              have hgd : (mOut ⟨src, dst, app, ttl, ssrc, iv, seq⟩ l now).parts.getD j [] = chunk l j := by
                show (chunks l (cntP l)).getD j [] = _
                rw [HC.out, List.getD_eq_getElem?_getD, chunks_at hjk]
                rfl
              rw [hgd] at hx
              obtain ⟨A7, c7, rfl⟩ := own_slice hx
              obtain ⟨sg, hsg⟩ : ∃ sg, sg = segL (mOut ⟨src, dst, app, ttl, ssrc, iv, seq⟩ l now) j := ⟨_, rfl⟩
              rw [← hsg]
              have HSG := Lib.hid hsg
              obtain ⟨vs, l1, l2, l3⟩ := HL6.out.on hb6
              rw [segs_len] at l1 l2
              obtain ⟨A8, c8, rfl⟩ := own_form l2
              have HL1 := Lib.hid l1
              have HL2 := Lib.hid l2
              have HL3 := Lib.hid l3
              have HXX := Lib.hid hx
              have HB66 := Lib.hid hb6
              have hsz6 := hb6.size
              clear hb6 hx l1 l2 l3 hsg hgd d0 d1 d2 d3 d4 d5 d6 d7 d8 d9
              generalize hck : chunk l j = ck at *
              have HCK := Lib.hid hck
              clear hck
              go_wp2_with (first
                | (at_builtin
                   refine app_sl _ elLo rfl (.tmp 81) (.tmp 85) rfl rfl (HL2.out.alloc _) rfl (Sl.lit _ _ _ 1 rfl (by simp [maxLen])) ?_ ?_ ?_ ?_
                   (case refine_1 => exact lowCs_one sg rfl)
                   (case refine_2 => have := hcnt.out; omega)
                   (case refine_3 => exact Nat.le_trans (Nat.le_trans (Nat.succ_le_of_lt y5) hsz6) (by simp))
                   intro v9 w9 hown9 hg9 hnil9 hat9))
              have hb9 : Below (W3.heap.size + 1) w6 w9 := below_app ((Below.refl _ _).alloc (Nat.le_trans (Nat.succ_le_of_lt y5) hsz6) _) (HL2.out.alloc _) hg9 (Nat.le_refl _) (Nat.le_trans (Nat.le_trans (Nat.succ_le_of_lt y5) hsz6) (by simp))
              have HOL := Lib.hid (show OwnLows w9 (W3.heap.size + 1) v9 (segs ⟨src, dst, app, ttl, ssrc, iv, seq⟩ l now (j + 1)) by
                have hlen : (vs ++ [Value.slice A7 ck.length c7]).length = j + 1 := by simp [HL1.out]
                refine ⟨vs ++ [.slice A7 ck.length c7], by rw [hlen, segs_len], ?_, fun i p u hp hu => ?_⟩
                · rw [segs_len, segs_succ, flat2_append _ _ _ _ (by rw [HL1.out, segs_len]), flat2_one, ← HSG.out]
                  exact hown9
                · rw [segs_succ] at hp
                  by_cases hi : i < j
                  · rw [List.getElem?_append_left (by rw [HL1.out]; exact hi)] at hu
                    rw [List.getElem?_append_left (by rw [segs_len]; exact hi)] at hp
                    exact own_grown_type ((HL3.out i p u hp hu).alloc _) (HL2.out.alloc _) (by decide) hg9
                  · have hij : i = j := by
                      have := (List.getElem?_eq_some_iff.1 hu).1
                      omega
                    subst hij
                    rw [List.getElem?_append_right (by rw [HL1.out]; exact Nat.le_refl _), HL1.out, Nat.sub_self] at hu
                    rw [List.getElem?_append_right (by rw [segs_len]; exact Nat.le_refl _), segs_len, Nat.sub_self] at hp
                    simp only [List.getElem?_cons_zero, Option.some.injEq] at hu hp
                    subst hu hp
                    show OB w9 (W3.heap.size + 1) _ (chunk l i)
                    rw [HCK.out]
                    have hx' : OB w6 (W3.heap.size + 1) (.slice A7 ck.length c7) ck := own_base HXX.out (Nat.succ_le_of_lt y5)
                    exact own_grown_type (hx'.alloc _) (HL2.out.alloc _) (by decide) hg9)
              have HOX := Lib.hid ((HX6.out.on HB66.out).keep hb9 (Nat.lt_succ_self _))
              have HOP := Lib.hid (((HP6.out.on HB66.out).on (al1 w6 _)).grown (HL2.out.alloc _) (by decide) (by decide) hg9)
              have HOB := Lib.hid ((HB6.out.trans (HB66.out.mono HB6.out.size)).trans (hb9.mono (Nat.le_succ _)))
              clear hown9 hg9 hnil9 hat9 hb9
              go_wp2_with fail
              go_roundw
              case rel => exact ⟨j + 1, by omega, by go_num, HOL.out, HOX.out, HOP.out, HOB.out⟩
              case measure => simp [intOf]; omega
            · have hjk' : j = k := by omega
              subst hjk'
              have d0 := hbx.cell (j := 0) rfl
              have d1 := hbx.cell (j := 1) rfl
              have d2 := hbx.cell (j := 2) rfl
              have d3 := hbx.cell (j := 3) rfl
              have d4 := hbx.cell (j := 4) rfl
              have d5 := hbx.cell (j := 5) rfl
              have d6 := hbx.cell (j := 6) rfl
              have d7 := hbx.cell (j := 7) rfl
              have d8 := hbx.cell (j := 8) rfl
              have d9 := hbx.cell (j := 9) rfl
              have y5 := hbx.lt
              dsimp only at d0 d1 d2 d3 d4 d6 d7 d8 d9
              have b0 := (H03.out.on hbel).cell (j := 0) rfl
              have b1 := (H03.out.on hbel).cell (j := 1) rfl
              have y0 := (H03.out.on hbel).lt
              obtain ⟨A8, c8, rfl⟩ : ∃ A8 c8, u12 = .slice A8 j c8 := by
                obtain ⟨vs, _, k2, _⟩ := hlo
                rw [segs_len] at k2
                exact own_form k2
              obtain ⟨vs, g1, g2⟩ := HG3.out.on hbel
              rw [HN.out] at g1
              have GR := Lib.hid g1
              have GM := Lib.hid g2
              have GH := Lib.hid (HH3.out.on hbel)
              have z3 : w.heap.size + 3 ≤ wr.heap.size := by have := hbel.size; omega
              clear hlo hbx hpv hbel g1 g2
              go_wp2_with (first
                | (at_builtin
                   refine app_sl _ elO rfl (.tmp 89) (.tmp 91) rfl rfl (GR.out.alloc _) rfl (Sl.lit _ _ _ 1 rfl (by simp [maxLen])) ?_ ?_ ?_ ?_
                   (case refine_1 => exact outCs_one (mOut ⟨src, dst, app, ttl, ssrc, iv, seq⟩ l now) (v := .slice A5 j c5) rfl)
                   (case refine_2 => omega)
                   (case refine_3 => exact Nat.le_trans z3 (by simp))
                   intro v9 w9 hown9 hg9 hnil9 hat9
                   have hb9 : Below (w.heap.size + 3) wr w9 := below_app ((Below.refl _ _).alloc z3 _) (GR.out.alloc _) hg9 (Nat.le_refl _) (Nat.le_trans z3 (by simp))
                   have HB9 := Lib.hid hb9
                   have HX0 := Lib.hid ((H03.out.on HB6.out).keep hb9 (by omega))
                   have HX2 := Lib.hid ((H23.out.on HB6.out).keep hb9 (by omega))
                   have c0 := HX0.out.cell (j := 0) rfl
                   have c1 := HX0.out.cell (j := 1) rfl
                   have c2 := HX2.out.cell (j := 0) rfl
                   have c3 := HX2.out.cell (j := 1) rfl
                   have f0 := HX0.out.free 0
                   have f2 := HX2.out.free 0
                   have f3 := HX2.out.free 1
                   have x0 := HX0.out.lt
                   have x2 := HX2.out.lt
                   have HG9 := Lib.hid hg9
                   have HO9 := Lib.hid hown9
                   obtain ⟨A9, c9, rfl⟩ := own_form hown9
                   clear hg9 hown9 hnil9 hat9 hb9))
              obtain ⟨Z, hZ⟩ : ∃ Z, Z = w9.setCell ⟨w.heap.size, 0, none⟩ (.slice A9 (N + 1) c9) := ⟨_, rfl⟩
              have hZB : Below w.heap.size w Z := by rw [hZ]; exact ((HA3.out.trans (HB6.out.mono HA3.out.size)).trans (HB9.out.mono (by omega))).setCell (Nat.le_refl _) _
              have hZX : Box Z (w.heap.size + 1 + 1) [.slice none 0 0, .slice none 0 0] := by rw [hZ]; exact HX2.out.far (show w.heap.size + 1 + 1 ≠ w.heap.size by omega) _
              have hZO : Z.ownsRow (w.heap.size + 3) 75 10 (.slice A9 (N + 1) c9) (N + 1) (flat2 outCs os vs ++ outCs (mOut ⟨src, dst, app, ttl, ssrc, iv, seq⟩ l now) (.slice A5 j c5)) := by rw [hZ]; exact own_far HO9.out (by omega) 0 _
              have hZM : OwnMany OutS.parts Z (w.heap.size + 3) os vs := by rw [hZ]; exact OwnMany.far ((GM.out.on (al1 wr _)).grown (GR.out.alloc _) (by decide) (by decide) HG9.out) (by omega) 0 _
              have hZP : OwnParts Z (w.heap.size + 3) (.slice A5 j c5) (chunks l j) := by rw [hZ]; exact OwnParts.far (OwnParts.low ((HP6.out.on (al1 wr _)).grown (GR.out.alloc _) (by decide) (by decide) HG9.out) (by omega)) (by omega) 0 _
              have hZI : OwnRow inCs 11 InS.parts 95 Z (w.heap.size + 3) (.slice (some ⟨h, 0, none⟩) M M) is := by rw [hZ]; exact ownRow_far ((GH.out.on (al1 wr _)).grown (GR.out.alloc _) (by decide) (by decide) (by decide) HG9.out) (by omega) 0 _
              have hZL : OwnLows Z (w.heap.size + 3) (.slice A8 j c8) (segs ⟨src, dst, app, ttl, ssrc, iv, seq⟩ l now j) := by rw [hZ]; exact OwnLows.far (OwnLows.low ((HL6.out.on (al1 wr _)).grown (GR.out.alloc _) (by decide) (by decide) HG9.out) (by omega)) (by omega) 0 _
              rw [← hZ]
              clear hZ c0 c1 c2 c3 f0 f2 f3 x0 x2 d0 d1 d2 d3 d4 d5 d6 d7 d8 d9 e0 e1 e2 e3 e4 e5
              refine bodyPost_ret (res_tr3 rfl _ _ (w.heap.size + 1 + 1) (.slice A9 (N + 1) c9) (.slice (some ⟨h, 0, none⟩) M M) rfl ?_) rfl (HQ.out _ _ ⟨?_, _, _, _, rfl, ?_, ?_, ?_⟩)
              · exact hZX.put [.slice A9 (N + 1) c9, .slice (some ⟨h, 0, none⟩) M M] rfl
              · exact below_puts (b := w.heap.size + 1 + 1) (by omega) 0 [.slice A9 (N + 1) c9, .slice (some ⟨h, 0, none⟩) M M] hZB
              · rw [HSO1.out]
                have hlen : (vs ++ [Value.slice A5 j c5]).length = (os ++ [mOut ⟨src, dst, app, ttl, ssrc, iv, seq⟩ l now]).length := by simp [hZM.1]
                refine ⟨vs ++ [.slice A5 j c5], hlen, ?_, fun i o u hi hu => ?_⟩
                · rw [flat2_append _ _ _ _ hZM.1, flat2_one, show (os ++ [mOut ⟨src, dst, app, ttl, ssrc, iv, seq⟩ l now]).length = N + 1 by simp [HN.out]]
                  exact (Sl2.of_own (own_far (own_far hZO (by omega) 0 _) (by omega) 1 _)).mono (by omega) (Nat.le_refl _)
                · by_cases hiN : i < os.length
                  · rw [List.getElem?_append_left hiN] at hi
                    rw [List.getElem?_append_left (by rw [hZM.1]; exact hiN)] at hu
                    exact (OwnParts.up (OwnParts.far (OwnParts.far (hZM.2.1 i o u hi hu) (by omega) 0 _) (by omega) 1 _)).mono (by omega) (Nat.le_refl _)
                  · have hie : i = os.length := by
                      have := (List.getElem?_eq_some_iff.1 hi).1
                      simp at this
                      omega
                    subst hie
                    rw [List.getElem?_append_right (Nat.le_refl _), Nat.sub_self] at hi
                    rw [List.getElem?_append_right (by rw [hZM.1]; exact Nat.le_refl _), hZM.1, Nat.sub_self] at hu
                    simp only [List.getElem?_cons_zero, Option.some.injEq] at hi hu
                    subst hi hu
                    show PartsV2 _ _ _ _ (chunks l (cntP l))
                    rw [HC.out]
                    exact (OwnParts.up (OwnParts.far (OwnParts.far hZP (by omega) 0 _) (by omega) 1 _)).mono (by omega) (Nat.le_refl _)
              · exact (ownRow_far (ownRow_far hZI (by omega) 0 _) (by omega) 1 _).upto (by omega)
              · rw [HSL1.out]
                exact (OwnLows.far (OwnLows.far hZL (by omega) 0 _) (by omega) 1 _).upto (by omega)
end Go.Proofs.Ytkpjinkkjbljkaa
