/- Walks of the reference of package smpdu: Decode at the kinds 1, 2, 8; the whole. -/
import Derived.Test.YtpomobeogkfmfaaDoorSec13
namespace Go.Proofs.YtpomobeogkfmfaaDoor
open Go.RowKit

set_option maxRecDepth 100000 in
set_option maxHeartbeats 4000000 in
theorem rsdecode_1 (a : UInt8) (r : List UInt8) (v : Value) (ha : a.toNat = 1) (hr : r.length = 2) (w : World) (hb : BS w w.heap.size v (a :: r)) : Calls Tryd.prog 38 #[v] w (SDecPost w (a :: r)) := by
  have ha' : (nB (a :: r) 0 : Int) = 1 := by show (a.toNat : Int) = 1; omega
  have hE : decSE (a :: r) = if badF 1 r = true then 2 else chkS (decP 1 r) := by
    unfold decSE
    rw [if_neg (by simp), ha', if_neg (by decide), if_neg (by rw [List.length_cons, hr]; decide), if_neg (by rw [List.length_cons, hr]; decide)]
    rfl
  have HE := Lib.hid hE
  have HD := Lib.hid (show decS (a :: r) = if decSE (a :: r) = 0 then decP 1 r else sec0 by unfold decS; rw [ha']; rfl)
  obtain ⟨b, o, c, rfl, hB, hn, hcm, _⟩ := hb.at_ (bys_at (k := 0) (by simp))
  obtain ⟨_, _, _, _, hcell⟩ := bs_cells hb (by simp)
  have hlen : (a :: r).length = 3 := by rw [List.length_cons, hr]
  have d0 : w.cell? ⟨b, o, none⟩ = some (.int .u8 1) := by
    have := hcell 0 (by simp)
    rw [ha'] at this
    exact this
  have d1 : w.cell? ⟨b, o + 1, none⟩ = some (.int .u8 ((nB r 0 : Nat) : Int)) := hcell 1 (by omega)
  have d2 : w.cell? ⟨b, o + 2, none⟩ = some (.int .u8 ((nB r 1 : Nat) : Int)) := hcell 2 (by omega)
  have hx := nB_lt r 0
  have hy := nB_lt r 1
  have HBF := Lib.hid (show badF 1 r = decide (31 < nB r 1) from rfl)
  have HDP := Lib.hid (show decP 1 r = ⟨1, (nB r 0 : Int), bitN (nB r 1) 0, bitN (nB r 1) 1, bitN (nB r 1) 2, bitN (nB r 1) 3, bitN (nB r 1) 4, 0, 0, 0, 0, 0, 0⟩ from rfl)
  generalize nB r 0 = x at *
  generalize nB r 1 = y at *
  have hw0 := wri64 (show x ≤ 9223372036854775807 by omega)
  have HF := Lib.hid (rfeatures_any (x : Int) y)
  generalize bitN y 0 = g0 at *
  generalize bitN y 1 = g1 at *
  generalize bitN y 2 = g2 at *
  generalize bitN y 3 = g3 at *
  generalize bitN y 4 = g4 at *
  rw [hlen] at hn ⊢
  unfold maxLen at hcm
  have hB1 : b < w.heap.size + 1 := by omega
  have hB2 : b < w.heap.size + 1 + 1 := by omega
  have hB3 : b ≠ w.heap.size := by omega
  have hB4 : b ≠ w.heap.size + 1 := by omega
  have hc3 : (3 : Int) ≤ (c : Int) := by omega
  have hc1 : ¬ c = 1 := by omega
  clear ha ha' hE hb hcell hlen hr
  go_enter Tryd.func38, Tryd.ntmps38
  go_wp2_with fail
  refine (length_any 1 _).mono ?_
  rintro e w1 ⟨rfl, rfl⟩
  rw [show lenK 1 = 3 from rfl]
  have hB5 : ¬ w.heap.size + 1 = b := by omega
  go_upto_region 15 with fail
  obtain ⟨b0, b1, b2, b3⟩ := boxes2 w sec0 (kindP 1) 53
  have HB0 := Lib.hid b0
  have HB1 := Lib.hid b1
  have HB2 := Lib.hid b2
  have HB3 := Lib.hid b3
  clear b0 b1 b2 b3
  go_region_held3 (fun w' => w'.cell? ⟨b, o + 1, none⟩ = some (.int .u8 (x : Int)) ∧ w'.cell? ⟨b, o + 2, none⟩ = some (.int .u8 (y : Int))) (go_keep)
    (first
      | (go_at_call 63; refine (HF.out _).mono ?_; rintro e w5 ⟨rfl, hb5⟩
         have hc5 := bfar (w.heap.size + 1 + 1) hb5 (by simp)
         have d1' : w5.cell? ⟨b, o + 1, none⟩ = some (.int .u8 (x : Int)) := (by rw [hc5 b (o + 1) (by omega)]; simp [go_sem, d1, hB, hB1])
         have d2' : w5.cell? ⟨b, o + 2, none⟩ = some (.int .u8 (y : Int)) := (by rw [hc5 b (o + 2) (by omega)]; simp [go_sem, d2, hB, hB1])
         have hs50 : SecAt w5 w.heap.size sec0 := fun j u hu => (blow hb5 w.heap.size j (by simp; omega)).trans (HB0.out j u hu)
         have hf50 : Froz w5 w.heap.size := fun j hj => (blowf hb5 w.heap.size j (by simp; omega)).trans (HB1.out j hj)
         have hs51 : SecAt w5 (w.heap.size + 1) (kindP 1) := fun j u hu => (blow hb5 (w.heap.size + 1) j (by simp)).trans (HB2.out j u hu)
         have hf51 : Froz w5 (w.heap.size + 1) := fun j hj => (blowf hb5 (w.heap.size + 1) j (by simp)).trans (HB3.out j hj)
         have HS50 := Lib.hid hs50
         have HF50 := Lib.hid hf50
         have HS51 := Lib.hid hs51
         have HF51 := Lib.hid hf51
         have hz5 := sec_lt hs51
         have hz50 := sec_lt hs50
         have HB5 := Lib.hid (show Below w.heap.size w w5 from ((al2 w _ _).drew).trans (hb5.mono (by simp; omega)))
         obtain ⟨q0, q1, q2, q3, q4, q5, q6, q7, q8, q9, q10, q11, q12⟩ := hs51.cells
         obtain ⟨z0, z1, z2, z3, z4, z5, z6, z7, z8, z9, z10, z11, z12⟩ := hf51.all
         clear hs50 hf50 hf51 hs51))
  clear hc5 hb5
  by_cases hbad : 31 < y
  · have HE2 := Lib.hid (HE.out.trans (if_pos (by rw [HBF.out]; exact decide_eq_true hbad)))
    obtain ⟨c0, c1, c2, c3, c4, c5, c6, c7, c8, c9, c10, c11, c12⟩ := HS50.out.cells
    obtain ⟨f0, f1, f2, f3, f4, f5, f6, f7, f8, f9, f10, f11, f12⟩ := HF50.out.all
    go_wp2_with fail
    refine bodyPost_ret (res_sec rfl _ _ w.heap.size sec0 rfl ?_) rfl ⟨?_, ?_⟩
    · exact sec_put sec0 (SecAt.far (SecAt.far (SecAt.far (SecAt.far (SecAt.far (SecAt.far HS50.out (by show w.heap.size + 1 ≠ _; omega) _) (by show w.heap.size + 1 ≠ _; omega) _) (by show w.heap.size + 1 ≠ _; omega) _) (by show w.heap.size + 1 ≠ _; omega) _) (by show w.heap.size + 1 ≠ _; omega) _) (by show w.heap.size + 1 ≠ _; omega) _)
    · rw [HD.out, HE2.out]; rfl
    · refine below_put sec0 ?_ (Nat.le_refl _)
      repeat refine Below.setCell ?_ (by show _ ≤ w.heap.size + 1; omega) _
      exact HB5.out
  · have HE := Lib.hid (HE.out.trans (if_neg (by rw [HBF.out, decide_eq_false hbad]; decide)))
    rw [HDP.out] at HE HD
    have HQ := Lib.hid (rscheck_any ⟨1, (x : Int), g0, g1, g2, g3, g4, 0, 0, 0, 0, 0, 0⟩)
    go_wp2_with fail
    refine (HQ.out _).mono ?_
    rintro e w7 ⟨rfl, hb7⟩
    have hs70 := (SecAt.far (SecAt.far (SecAt.far (SecAt.far (SecAt.far (SecAt.far HS50.out (by show w.heap.size + 1 ≠ _; omega) _) (by show w.heap.size + 1 ≠ _; omega) _) (by show w.heap.size + 1 ≠ _; omega) _) (by show w.heap.size + 1 ≠ _; omega) _) (by show w.heap.size + 1 ≠ _; omega) _) (by show w.heap.size + 1 ≠ _; omega) _).keep hb7 (by simp; omega)
    have hf70 := ((((((HF50.out.set _ _).set _ _).set _ _).set _ _).set _ _).set _ _).keep hb7 (by simp; omega)
    have hs71 : SecAt w7 (w.heap.size + 1) ⟨1, (x : Int), g0, g1, g2, g3, g4, 0, 0, 0, 0, 0, 0⟩ := (sec_feat HS51.out x g0 g1 g2 g3 g4).keep hb7 (by simp; omega)
    have hbb7 : Below w.heap.size w w7 := by
      refine Below.trans ?_ (hb7.mono (by simp; omega))
      repeat refine Below.setCell ?_ (by show _ ≤ w.heap.size + 1; omega) _
      exact HB5.out
    clear hb7 HQ d1' d2' q0 q1 q2 q3 q4 q5 q6 q7 q8 q9 q10 q11 q12 z0 z1 z2 z3 z4 z5 z6 z7 z8 z9 z10 z11 z12 HS50 HF50 HS51 HF51
    have HS7 := Lib.hid hs70
    have HF7 := Lib.hid hf70
    have HB7 := Lib.hid hbb7
    have hz7 := sec_lt hs71
    have hz0 := sec_lt hs70
    by_cases hc : chkS ⟨1, (x : Int), g0, g1, g2, g3, g4, 0, 0, 0, 0, 0, 0⟩ = 0
    · rw [hc]
      have HC := Lib.hid hc
      clear hc hs70 hf70 hbb7
      obtain ⟨p0, p1, p2, p3, p4, p5, p6, p7, p8, p9, p10, p11, p12⟩ := hs71.cells
      obtain ⟨c0, c1, c2, c3, c4, c5, c6, c7, c8, c9, c10, c11, c12⟩ := HS7.out.cells
      obtain ⟨f0, f1, f2, f3, f4, f5, f6, f7, f8, f9, f10, f11, f12⟩ := HF7.out.all
      clear hs71
      go_wp2_with fail
      refine bodyPost_ret (res_sec rfl _ _ w.heap.size ⟨1, (x : Int), g0, g1, g2, g3, g4, 0, 0, 0, 0, 0, 0⟩ rfl ?_) rfl ⟨?_, ?_⟩
      · exact sec_put ⟨1, (x : Int), g0, g1, g2, g3, g4, 0, 0, 0, 0, 0, 0⟩ HS7.out
      · rw [HD.out, HE.out, HC.out, if_pos rfl]; rfl
      · exact below_put ⟨1, (x : Int), g0, g1, g2, g3, g4, 0, 0, 0, 0, 0, 0⟩ HB7.out (Nat.le_refl _)
    · have hc' := ne_bool hc
      have HC := Lib.hid hc
      clear hc hs70 hf70 hbb7 hs71
      generalize hcd : chkS ⟨1, (x : Int), g0, g1, g2, g3, g4, 0, 0, 0, 0, 0, 0⟩ = cc at *
      have HCD := Lib.hid hcd
      clear hcd
      obtain ⟨c0, c1, c2, c3, c4, c5, c6, c7, c8, c9, c10, c11, c12⟩ := HS7.out.cells
      obtain ⟨f0, f1, f2, f3, f4, f5, f6, f7, f8, f9, f10, f11, f12⟩ := HF7.out.all
      go_wp2_with fail
      refine bodyPost_ret (res_sec rfl _ _ w.heap.size sec0 rfl ?_) rfl ⟨?_, ?_⟩
      · exact sec_put sec0 HS7.out
      · rw [HD.out, HE.out, if_neg HC.out]; rfl
      · exact below_put sec0 HB7.out (Nat.le_refl _)

set_option maxRecDepth 100000 in
set_option maxHeartbeats 4000000 in
theorem rsdecode_2 (a : UInt8) (r : List UInt8) (v : Value) (ha : a.toNat = 2) (hr : r.length = 2) (w : World) (hb : BS w w.heap.size v (a :: r)) : Calls Tryd.prog 38 #[v] w (SDecPost w (a :: r)) := by
  have ha' : (nB (a :: r) 0 : Int) = 2 := by show (a.toNat : Int) = 2; omega
  have hE : decSE (a :: r) = if badF 2 r = true then 2 else chkS (decP 2 r) := by
    unfold decSE
    rw [if_neg (by simp), ha', if_neg (by decide), if_neg (by rw [List.length_cons, hr]; decide), if_neg (by rw [List.length_cons, hr]; decide)]
    rfl
  have HE := Lib.hid hE
  have HD := Lib.hid (show decS (a :: r) = if decSE (a :: r) = 0 then decP 2 r else sec0 by unfold decS; rw [ha']; rfl)
  obtain ⟨b, o, c, rfl, hB, hn, hcm, _⟩ := hb.at_ (bys_at (k := 0) (by simp))
  obtain ⟨_, _, _, _, hcell⟩ := bs_cells hb (by simp)
  have hlen : (a :: r).length = 3 := by rw [List.length_cons, hr]
  have d0 : w.cell? ⟨b, o, none⟩ = some (.int .u8 2) := by
    have := hcell 0 (by simp)
    rw [ha'] at this
    exact this
  have d1 : w.cell? ⟨b, o + 1, none⟩ = some (.int .u8 ((nB r 0 : Nat) : Int)) := hcell 1 (by omega)
  have d2 : w.cell? ⟨b, o + 2, none⟩ = some (.int .u8 ((nB r 1 : Nat) : Int)) := hcell 2 (by omega)
  have hx := nB_lt r 0
  have hy := nB_lt r 1
  have HBF := Lib.hid (show badF 2 r = decide (31 < nB r 1) from rfl)
  have HDP := Lib.hid (show decP 2 r = ⟨2, (nB r 0 : Int), bitN (nB r 1) 0, bitN (nB r 1) 1, bitN (nB r 1) 2, bitN (nB r 1) 3, bitN (nB r 1) 4, 0, 0, 0, 0, 0, 0⟩ from rfl)
  generalize nB r 0 = x at *
  generalize nB r 1 = y at *
  have hw0 := wri64 (show x ≤ 9223372036854775807 by omega)
  have HF := Lib.hid (rfeatures_any (x : Int) y)
  generalize bitN y 0 = g0 at *
  generalize bitN y 1 = g1 at *
  generalize bitN y 2 = g2 at *
  generalize bitN y 3 = g3 at *
  generalize bitN y 4 = g4 at *
  rw [hlen] at hn ⊢
  unfold maxLen at hcm
  have hB1 : b < w.heap.size + 1 := by omega
  have hB2 : b < w.heap.size + 1 + 1 := by omega
  have hB3 : b ≠ w.heap.size := by omega
  have hB4 : b ≠ w.heap.size + 1 := by omega
  have hc3 : (3 : Int) ≤ (c : Int) := by omega
  have hc1 : ¬ c = 1 := by omega
  clear ha ha' hE hb hcell hlen hr
  go_enter Tryd.func38, Tryd.ntmps38
  go_wp2_with fail
  refine (length_any 2 _).mono ?_
  rintro e w1 ⟨rfl, rfl⟩
  rw [show lenK 2 = 3 from rfl]
  have hB5 : ¬ w.heap.size + 1 = b := by omega
  go_upto_region 15 with fail
  obtain ⟨b0, b1, b2, b3⟩ := boxes2 w sec0 (kindP 2) 53
  have HB0 := Lib.hid b0
  have HB1 := Lib.hid b1
  have HB2 := Lib.hid b2
  have HB3 := Lib.hid b3
  clear b0 b1 b2 b3
  go_region_held3 (fun w' => w'.cell? ⟨b, o + 1, none⟩ = some (.int .u8 (x : Int)) ∧ w'.cell? ⟨b, o + 2, none⟩ = some (.int .u8 (y : Int))) (go_keep)
    (first
      | (go_at_call 63; refine (HF.out _).mono ?_; rintro e w5 ⟨rfl, hb5⟩
         have hc5 := bfar (w.heap.size + 1 + 1) hb5 (by simp)
         have d1' : w5.cell? ⟨b, o + 1, none⟩ = some (.int .u8 (x : Int)) := (by rw [hc5 b (o + 1) (by omega)]; simp [go_sem, d1, hB, hB1])
         have d2' : w5.cell? ⟨b, o + 2, none⟩ = some (.int .u8 (y : Int)) := (by rw [hc5 b (o + 2) (by omega)]; simp [go_sem, d2, hB, hB1])
         have hs50 : SecAt w5 w.heap.size sec0 := fun j u hu => (blow hb5 w.heap.size j (by simp; omega)).trans (HB0.out j u hu)
         have hf50 : Froz w5 w.heap.size := fun j hj => (blowf hb5 w.heap.size j (by simp; omega)).trans (HB1.out j hj)
         have hs51 : SecAt w5 (w.heap.size + 1) (kindP 2) := fun j u hu => (blow hb5 (w.heap.size + 1) j (by simp)).trans (HB2.out j u hu)
         have hf51 : Froz w5 (w.heap.size + 1) := fun j hj => (blowf hb5 (w.heap.size + 1) j (by simp)).trans (HB3.out j hj)
         have HS50 := Lib.hid hs50
         have HF50 := Lib.hid hf50
         have HS51 := Lib.hid hs51
         have HF51 := Lib.hid hf51
         have hz5 := sec_lt hs51
         have hz50 := sec_lt hs50
         have HB5 := Lib.hid (show Below w.heap.size w w5 from ((al2 w _ _).drew).trans (hb5.mono (by simp; omega)))
         obtain ⟨q0, q1, q2, q3, q4, q5, q6, q7, q8, q9, q10, q11, q12⟩ := hs51.cells
         obtain ⟨z0, z1, z2, z3, z4, z5, z6, z7, z8, z9, z10, z11, z12⟩ := hf51.all
         clear hs50 hf50 hf51 hs51))
  clear hc5 hb5
  by_cases hbad : 31 < y
  · have HE2 := Lib.hid (HE.out.trans (if_pos (by rw [HBF.out]; exact decide_eq_true hbad)))
    obtain ⟨c0, c1, c2, c3, c4, c5, c6, c7, c8, c9, c10, c11, c12⟩ := HS50.out.cells
    obtain ⟨f0, f1, f2, f3, f4, f5, f6, f7, f8, f9, f10, f11, f12⟩ := HF50.out.all
    go_wp2_with fail
    refine bodyPost_ret (res_sec rfl _ _ w.heap.size sec0 rfl ?_) rfl ⟨?_, ?_⟩
    · exact sec_put sec0 (SecAt.far (SecAt.far (SecAt.far (SecAt.far (SecAt.far (SecAt.far HS50.out (by show w.heap.size + 1 ≠ _; omega) _) (by show w.heap.size + 1 ≠ _; omega) _) (by show w.heap.size + 1 ≠ _; omega) _) (by show w.heap.size + 1 ≠ _; omega) _) (by show w.heap.size + 1 ≠ _; omega) _) (by show w.heap.size + 1 ≠ _; omega) _)
    · rw [HD.out, HE2.out]; rfl
    · refine below_put sec0 ?_ (Nat.le_refl _)
      repeat refine Below.setCell ?_ (by show _ ≤ w.heap.size + 1; omega) _
      exact HB5.out
  · have HE := Lib.hid (HE.out.trans (if_neg (by rw [HBF.out, decide_eq_false hbad]; decide)))
    rw [HDP.out] at HE HD
    have HQ := Lib.hid (rscheck_any ⟨2, (x : Int), g0, g1, g2, g3, g4, 0, 0, 0, 0, 0, 0⟩)
    go_wp2_with fail
    refine (HQ.out _).mono ?_
    rintro e w7 ⟨rfl, hb7⟩
    have hs70 := (SecAt.far (SecAt.far (SecAt.far (SecAt.far (SecAt.far (SecAt.far HS50.out (by show w.heap.size + 1 ≠ _; omega) _) (by show w.heap.size + 1 ≠ _; omega) _) (by show w.heap.size + 1 ≠ _; omega) _) (by show w.heap.size + 1 ≠ _; omega) _) (by show w.heap.size + 1 ≠ _; omega) _) (by show w.heap.size + 1 ≠ _; omega) _).keep hb7 (by simp; omega)
    have hf70 := ((((((HF50.out.set _ _).set _ _).set _ _).set _ _).set _ _).set _ _).keep hb7 (by simp; omega)
    have hs71 : SecAt w7 (w.heap.size + 1) ⟨2, (x : Int), g0, g1, g2, g3, g4, 0, 0, 0, 0, 0, 0⟩ := (sec_feat HS51.out x g0 g1 g2 g3 g4).keep hb7 (by simp; omega)
    have hbb7 : Below w.heap.size w w7 := by
      refine Below.trans ?_ (hb7.mono (by simp; omega))
      repeat refine Below.setCell ?_ (by show _ ≤ w.heap.size + 1; omega) _
      exact HB5.out
    clear hb7 HQ d1' d2' q0 q1 q2 q3 q4 q5 q6 q7 q8 q9 q10 q11 q12 z0 z1 z2 z3 z4 z5 z6 z7 z8 z9 z10 z11 z12 HS50 HF50 HS51 HF51
    have HS7 := Lib.hid hs70
    have HF7 := Lib.hid hf70
    have HB7 := Lib.hid hbb7
    have hz7 := sec_lt hs71
    have hz0 := sec_lt hs70
    by_cases hc : chkS ⟨2, (x : Int), g0, g1, g2, g3, g4, 0, 0, 0, 0, 0, 0⟩ = 0
    · rw [hc]
      have HC := Lib.hid hc
      clear hc hs70 hf70 hbb7
      obtain ⟨p0, p1, p2, p3, p4, p5, p6, p7, p8, p9, p10, p11, p12⟩ := hs71.cells
      obtain ⟨c0, c1, c2, c3, c4, c5, c6, c7, c8, c9, c10, c11, c12⟩ := HS7.out.cells
      obtain ⟨f0, f1, f2, f3, f4, f5, f6, f7, f8, f9, f10, f11, f12⟩ := HF7.out.all
      clear hs71
      go_wp2_with fail
      refine bodyPost_ret (res_sec rfl _ _ w.heap.size ⟨2, (x : Int), g0, g1, g2, g3, g4, 0, 0, 0, 0, 0, 0⟩ rfl ?_) rfl ⟨?_, ?_⟩
      · exact sec_put ⟨2, (x : Int), g0, g1, g2, g3, g4, 0, 0, 0, 0, 0, 0⟩ HS7.out
      · rw [HD.out, HE.out, HC.out, if_pos rfl]; rfl
      · exact below_put ⟨2, (x : Int), g0, g1, g2, g3, g4, 0, 0, 0, 0, 0, 0⟩ HB7.out (Nat.le_refl _)
    · have hc' := ne_bool hc
      have HC := Lib.hid hc
      clear hc hs70 hf70 hbb7 hs71
      generalize hcd : chkS ⟨2, (x : Int), g0, g1, g2, g3, g4, 0, 0, 0, 0, 0, 0⟩ = cc at *
      have HCD := Lib.hid hcd
      clear hcd
      obtain ⟨c0, c1, c2, c3, c4, c5, c6, c7, c8, c9, c10, c11, c12⟩ := HS7.out.cells
      obtain ⟨f0, f1, f2, f3, f4, f5, f6, f7, f8, f9, f10, f11, f12⟩ := HF7.out.all
      go_wp2_with fail
      refine bodyPost_ret (res_sec rfl _ _ w.heap.size sec0 rfl ?_) rfl ⟨?_, ?_⟩
      · exact sec_put sec0 HS7.out
      · rw [HD.out, HE.out, if_neg HC.out]; rfl
      · exact below_put sec0 HB7.out (Nat.le_refl _)

set_option maxRecDepth 100000 in
set_option maxHeartbeats 4000000 in
theorem rsdecode_8 (a : UInt8) (r : List UInt8) (v : Value) (ha : a.toNat = 8) (hr : r.length = 15) (w : World) (hb : BS w w.heap.size v (a :: r)) : Calls Tryd.prog 38 #[v] w (SDecPost w (a :: r)) := by
  have ha' : (nB (a :: r) 0 : Int) = 8 := by show (a.toNat : Int) = 8; omega
  have hE : decSE (a :: r) = if badF 8 r = true then 2 else chkS (decP 8 r) := by
    unfold decSE
    rw [if_neg (by simp), ha', if_neg (by decide), if_neg (by rw [List.length_cons, hr]; decide), if_neg (by rw [List.length_cons, hr]; decide)]
    rfl
  have HE := Lib.hid hE
  have HD := Lib.hid (show decS (a :: r) = if decSE (a :: r) = 0 then decP 8 r else sec0 by unfold decS; rw [ha']; rfl)
  obtain ⟨b, o, c, rfl, hB, hn, hcm, _⟩ := hb.at_ (bys_at (k := 0) (by simp))
  obtain ⟨_, _, _, _, hcell⟩ := bs_cells hb (by simp)
  have hlen : (a :: r).length = 16 := by rw [List.length_cons, hr]
  have d0 : w.cell? ⟨b, o, none⟩ = some (.int .u8 8) := by
    have := hcell 0 (by simp)
    rw [ha'] at this
    exact this
  have d9 : w.cell? ⟨b, o + 9, none⟩ = some (.int .u8 ((nB r 8 : Nat) : Int)) := hcell 9 (by omega)
  have hy := nB_lt r 8
  have hcut := hb.cut (k := 10) (by omega)
  have hpc := bs_piece hb (k := 1) (m := 9) (by omega) (by omega) (by omega)
  have VC1 := Lib.hid (show ∀ W, Below w.heap.size w W → Calls Tryd.prog 51 #[.slice (some ⟨b, o + 1, none⟩) 8 (c - 1)] W fun e w' => e = .returned (.int .u64 ((leVal (r.take 8) : Nat) : Int)) ∧ W = w' by
    intro W hW
    have hl8 : (r.take 8).length = 8 := by rw [List.length_take]; omega
    have h := value_any (r.take 8) (some ⟨b, o + 1, none⟩) (c - 1) W w.heap.size (by
      rw [hl8]
      exact hpc.below hW) (by omega)
    rwa [hl8] at h)
  have VC2 := Lib.hid (show ∀ W, Below w.heap.size w W → Calls Tryd.prog 51 #[.slice (some ⟨b, o + 10, none⟩) 6 (c - 10)] W fun e w' => e = .returned (.int .u64 ((leVal (r.drop 9) : Nat) : Int)) ∧ W = w' by
    intro W hW
    have hl6 : (r.drop 9).length = 6 := by rw [List.length_drop]; omega
    have h := value_any (r.drop 9) (some ⟨b, o + 10, none⟩) (c - 10) W w.heap.size (by
      have h1 := hcut.below hW
      rw [if_neg (by omega), hlen] at h1
      rw [hl6]
      exact h1) (by omega)
    rwa [hl6] at h)
  have HE := Lib.hid (show decSE (a :: r) = chkS (decP 8 r) from HE.out.trans (if_neg (by show ¬ false = true; decide)))
  have hq : decP 8 r = ⟨8, 0, false, false, false, false, false, 0, 0, (nB r 8 : Int), leVal (r.drop 9), leVal (r.take 8), 0⟩ := rfl
  rw [hq] at HE HD
  clear hq hcut hpc
  generalize nB r 8 = y at *
  generalize leVal (r.take 8) = x at *
  generalize leVal (r.drop 9) = z at *
  have hw0 := wri64 (show y ≤ 9223372036854775807 by omega)
  have HQ := Lib.hid (rscheck_any ⟨8, 0, false, false, false, false, false, 0, 0, (y : Int), z, x, 0⟩)
  rw [hlen] at hn ⊢
  unfold maxLen at hcm
  have hB1 : b < w.heap.size + 1 := by omega
  have hB2 : b < w.heap.size + 1 + 1 := by omega
  have hB3 : b ≠ w.heap.size := by omega
  have hB4 : b ≠ w.heap.size + 1 := by omega
  have hc16 : (16 : Int) ≤ (c : Int) := by omega
  have hc1 : ¬ c = 1 := by omega
  clear ha ha' hE hb hcell hlen hr
  go_enter Tryd.func38, Tryd.ntmps38
  go_wp2_with fail
  refine (length_any 8 _).mono ?_
  rintro e w1 ⟨rfl, rfl⟩
  rw [show lenK 8 = 16 from rfl]
  have hc9 : (9 : Int) ≤ (c : Int) := by omega
  have hc10 : (10 : Int) ≤ (c : Int) := by omega
  have hc10' : ¬ c = 10 := by omega
  go_wp2_with fail
  refine (VC1.out _ (al2 w _ _)).mono ?_
  rintro e w2 ⟨rfl, rfl⟩
  go_upto_region 28 with fail
  go_region_held3 (fun w' => w'.cell? ⟨b, o + 9, none⟩ = some (.int .u8 (y : Int))) (go_keep)
    (first
      | (go_at_call 51; refine (VC2.out _ ((al2 w _ _).drew)).mono ?_; rintro e w3 ⟨rfl, rfl⟩))
  go_wp2_with fail
  refine (HQ.out _).mono ?_
  rintro e w7 ⟨rfl, hb7⟩
  obtain ⟨b0, b1, b2, b3⟩ := boxes2 w sec0 ⟨8, 0, false, false, false, false, false, 0, 0, (y : Int), z, x, 0⟩ 53
  have hs70 : SecAt w7 w.heap.size sec0 := fun j u hu => (blow hb7 w.heap.size j (by simp; omega)).trans (b0 j u hu)
  have hf70 : Froz w7 w.heap.size := fun j hj => (blowf hb7 w.heap.size j (by simp; omega)).trans (b1 j hj)
  have hs71 : SecAt w7 (w.heap.size + 1) ⟨8, 0, false, false, false, false, false, 0, 0, (y : Int), z, x, 0⟩ := fun j u hu => (blow hb7 (w.heap.size + 1) j (by simp)).trans (b2 j u hu)
  have hbb7 : Below w.heap.size w w7 := ((al2 w _ _).drew).trans (hb7.mono (by simp; omega))
  clear hb7 b0 b1 b2 b3 VC1 VC2 HQ d0 d9
  have HS7 := Lib.hid hs70
  have HF7 := Lib.hid hf70
  have HB7 := Lib.hid hbb7
  have hz7 := sec_lt hs71
  have hz0 := sec_lt hs70
  by_cases hc : chkS ⟨8, 0, false, false, false, false, false, 0, 0, (y : Int), z, x, 0⟩ = 0
  · rw [hc]
    have HC := Lib.hid hc
    clear hc hs70 hf70 hbb7
    obtain ⟨p0, p1, p2, p3, p4, p5, p6, p7, p8, p9, p10, p11, p12⟩ := hs71.cells
    obtain ⟨c0, c1, c2, c3, c4, c5, c6, c7, c8, c9, c10, c11, c12⟩ := HS7.out.cells
    obtain ⟨f0, f1, f2, f3, f4, f5, f6, f7, f8, f9, f10, f11, f12⟩ := HF7.out.all
    clear hs71
    go_wp2_with fail
    refine bodyPost_ret (res_sec rfl _ _ w.heap.size ⟨8, 0, false, false, false, false, false, 0, 0, (y : Int), z, x, 0⟩ rfl ?_) rfl ⟨?_, ?_⟩
    · exact sec_put ⟨8, 0, false, false, false, false, false, 0, 0, (y : Int), z, x, 0⟩ HS7.out
    · rw [HD.out, HE.out, HC.out, if_pos rfl]; rfl
    · exact below_put ⟨8, 0, false, false, false, false, false, 0, 0, (y : Int), z, x, 0⟩ HB7.out (Nat.le_refl _)
  · have hc' := ne_bool hc
    have HC := Lib.hid hc
    clear hc hs70 hf70 hbb7 hs71
    generalize hcd : chkS ⟨8, 0, false, false, false, false, false, 0, 0, (y : Int), z, x, 0⟩ = cc at *
    have HCD := Lib.hid hcd
    clear hcd
    obtain ⟨c0, c1, c2, c3, c4, c5, c6, c7, c8, c9, c10, c11, c12⟩ := HS7.out.cells
    obtain ⟨f0, f1, f2, f3, f4, f5, f6, f7, f8, f9, f10, f11, f12⟩ := HF7.out.all
    go_wp2_with fail
    refine bodyPost_ret (res_sec rfl _ _ w.heap.size sec0 rfl ?_) rfl ⟨?_, ?_⟩
    · exact sec_put sec0 HS7.out
    · rw [HD.out, HE.out, if_neg HC.out]; rfl
    · exact below_put sec0 HB7.out (Nat.le_refl _)

/-- The reference's Decode returns the PDU of bytes, or the error. -/
theorem rsdecode_any (l : List UInt8) (v : Value) (hl : l.length ≤ 140737488355328) (w : World) (hb : BS w w.heap.size v l) : Calls Tryd.prog 38 #[v] w (SDecPost w l) := by
  match l, hl, hb with
  | [], _, hb => exact rsdecode_nil v w hb
  | a :: r, hl, hb =>
    by_cases h : hasK (a.toNat : Int) = true
    · by_cases hne : ((r.length + 1 : Nat) : Int) = lenK (a.toNat : Int)
      · have hk := hasK_yes h
        rcases hk with hk | hk | hk | hk | hk | hk | hk | hk | hk
        all_goals rw [hk] at hne
        · exact rsdecode_1 a r v (by omega) (len_of hne rfl) w hb
        · exact rsdecode_2 a r v (by omega) (len_of hne rfl) w hb
        · exact rsdecode_3 a r v (by omega) (len_of hne rfl) w hb
        · exact rsdecode_4 a r v (by omega) (len_of hne rfl) w hb
        · exact rsdecode_5 a r v (by omega) (len_of hne rfl) w hb
        · exact rsdecode_8 a r v (by omega) (len_of hne rfl) w hb
        · exact rsdecode_11 a r v (by omega) (len_of hne rfl) w hb
        · exact rsdecode_12 a r v (by omega) (len_of hne rfl) w hb
        · exact rsdecode_13 a r v (by omega) (len_of hne rfl) w hb
      · exact rsdecode_len a r v hl h hne w hb
    · exact rsdecode_no a r v h w hb
end Go.Proofs.YtpomobeogkfmfaaDoor
