/- Walks of the reference of package smpdu: Encode. -/
import Derived.Test.YtpomobeogkfmfaaDoorSec5
import Derived.Test.YtpomobeogkfmfaaDoorSec7
namespace Go.Proofs.YtpomobeogkfmfaaDoor
open Go.RowKit

set_option maxRecDepth 100000 in
set_option maxHeartbeats 1000000 in
theorem rsencode_bad (p : Sec) (hc : chkS p ≠ 0) (w : World) : Calls Tryd.prog 36 #[secV p] w (SEncPost w p) := by
  have C := Lib.hid (rscheck_any p)
  have HC := Lib.hid hc
  have hc' := ne_bool hc
  clear hc
  go_enter Tryd.func36, Tryd.ntmps36
  go_wp2_with fail
  refine (C.out _).mono ?_
  rintro e w1 ⟨rfl, hb1⟩
  have HB1 := Lib.hid (one hb1)
  clear hb1 C
  generalize hcd : chkS p = c at *
  have HCD := Lib.hid hcd
  clear hcd
  go_wp2_with fail
  go_ret2
  exact ⟨HB1.out, fun h => absurd (HCD.out.symm.trans h) HC.out, fun _ => by rw [HCD.out]; rfl⟩

set_option maxRecDepth 100000 in
set_option maxHeartbeats 2000000 in
theorem rsencode_1 (n : Nat) (h4 : n ≤ 4) (o b m s t : Bool) (pu va : Nat) (ak : Int) (ax ir : Nat) (rs : Int) (hc : chkS ⟨1, (n : Int), o, b, m, s, t, pu, va, ak, ax, ir, rs⟩ = 0) (w : World) : Calls Tryd.prog 36 #[secV ⟨1, (n : Int), o, b, m, s, t, pu, va, ak, ax, ir, rs⟩] w (SEncPost w ⟨1, (n : Int), o, b, m, s, t, pu, va, ak, ax, ir, rs⟩) := by
  have C := Lib.hid (show ∀ w, Calls Tryd.prog 34 #[secV ⟨1, (n : Int), o, b, m, s, t, pu, va, ak, ax, ir, rs⟩] w fun e w' => e = .returned (.int .i64 0) ∧ Below w.heap.size w w' by
    intro w
    have h := rscheck_any ⟨1, (n : Int), o, b, m, s, t, pu, va, ak, ax, ir, rs⟩ w
    unfold CheckPost at h
    rwa [hc] at h)
  have HC := Lib.hid hc
  clear hc
  have HE := Lib.hid (show bys (encS ⟨1, (n : Int), o, b, m, s, t, pu, va, ak, ax, ir, rs⟩) = [.int .u8 1, .int .u8 (n : Int), .int .u8 (flagN o b m s t : Nat)] by
    have := flagN_lt o b m s t
    simp [encS, bodS, bys]
    omega)
  have HF := Lib.hid (rflags_any n o b m s t)
  have hwr := wr8 (show n ≤ 255 by omega)
  generalize flagN o b m s t = fl at *
  go_enter Tryd.func36, Tryd.ntmps36
  go_wp2_with fail
  refine (C.out _).mono ?_
  rintro e w1 ⟨rfl, hb1⟩
  have hs := (SecAt.new w ⟨1, (n : Int), o, b, m, s, t, pu, va, ak, ax, ir, rs⟩ 53).keep hb1 (by simp)
  have hz1 := sz1 hb1
  have hz1' : w.heap.size < w1.heap.size + 1 := by omega
  obtain ⟨c0, c1, c2, c3, c4, c5, c6, c7, c8, c9, c10, c11, c12⟩ := hs.cells
  have HS := Lib.hid hs
  have HB1 := Lib.hid (one hb1)
  have HO1 := Lib.hid (World.ownsRow_lit (base := w.heap.size) (e := 5) (size := 1) w1 #[.int .u8 1] 1 HB1.out.size (by simp [maxLen]) rfl)
  clear hb1 hs C
  go_wp2_with fail
  go_region_held3 (fun w' => w'.cell? ⟨w.heap.size, 1, none⟩ = some (.int .i64 (n : Int)) ∧ w'.cell? ⟨w.heap.size, 2, none⟩ = some (.bool o) ∧ w'.cell? ⟨w.heap.size, 3, none⟩ = some (.bool b) ∧ w'.cell? ⟨w.heap.size, 4, none⟩ = some (.bool m) ∧ w'.cell? ⟨w.heap.size, 5, none⟩ = some (.bool s) ∧ w'.cell? ⟨w.heap.size, 6, none⟩ = some (.bool t)) (go_keep)
    (first
      | (go_at_call 60; refine (HF.out _).mono ?_; rintro e w2 ⟨rfl, hb2⟩; have hc2 := bfar (w1.heap.size + 1) hb2 (by simp); have hz2 : w1.heap.size + 1 ≤ w2.heap.size := (by have := hb2.size; simp at this; omega))
      | (refine step_sl _ elB rfl (.tmp 27) (.tmp 35) rfl rfl ((own_on (own_drew HO1.out) hb2).alloc _) rfl (Sl.lit w2 #[.int .u8 (n : Int), .int .u8 (fl : Int)] _ 2 rfl (by simp [maxLen])) ?_ ?_ ?_ ?_
         (case refine_1 => intro u hu; simp at hu; rcases hu with rfl | rfl <;> rfl)
         (case refine_2 => omega)
         (case refine_3 => simp; omega)
         intro v3 w3 hown3 hg3 hnil3 hat3
         have hb3 : Below w.heap.size w w3 := below_app ((bthen HB1.out (one_drew hb2)).alloc (by omega) _) ((own_on (own_drew HO1.out) hb2).alloc _) hg3 (Nat.le_refl _) (by simp; omega)
         have hc3 : ∀ o, w3.cell? ⟨w.heap.size, o, none⟩ = (w2.alloc (.cells #[.int .u8 (n : Int), .int .u8 (fl : Int)] 5)).cell? ⟨w.heap.size, o, none⟩ := fun o => World.cell?_of_block (a := ⟨w.heap.size, o, none⟩) (hg3.block w.heap.size (by simp; omega) (fun h => by have h' := Option.some.inj (show some w.heap.size = some w1.heap.size from h); omega))))
  have K1 := Lib.hid (show w3.ownsRow w.heap.size 5 1 v3 3 (bys (encS ⟨1, (n : Int), o, b, m, s, t, pu, va, ak, ax, ir, rs⟩)) by
    rw [HE.out]
    exact hown3)
  have K2 := Lib.hid hb3
  clear hown3 hg3 hnil3 hat3 hb3 hc3
  go_wp2
  go_ret2
  exact ⟨K2.out, fun _ => ⟨v3, rfl, K1.out⟩, fun h => absurd HC.out h⟩

set_option maxRecDepth 100000 in
set_option maxHeartbeats 2000000 in
theorem rsencode_2 (n : Nat) (h4 : n ≤ 4) (o b m s t : Bool) (pu va : Nat) (ak : Int) (ax ir : Nat) (rs : Int) (hc : chkS ⟨2, (n : Int), o, b, m, s, t, pu, va, ak, ax, ir, rs⟩ = 0) (w : World) : Calls Tryd.prog 36 #[secV ⟨2, (n : Int), o, b, m, s, t, pu, va, ak, ax, ir, rs⟩] w (SEncPost w ⟨2, (n : Int), o, b, m, s, t, pu, va, ak, ax, ir, rs⟩) := by
  have C := Lib.hid (show ∀ w, Calls Tryd.prog 34 #[secV ⟨2, (n : Int), o, b, m, s, t, pu, va, ak, ax, ir, rs⟩] w fun e w' => e = .returned (.int .i64 0) ∧ Below w.heap.size w w' by
    intro w
    have h := rscheck_any ⟨2, (n : Int), o, b, m, s, t, pu, va, ak, ax, ir, rs⟩ w
    unfold CheckPost at h
    rwa [hc] at h)
  have HC := Lib.hid hc
  clear hc
  have HE := Lib.hid (show bys (encS ⟨2, (n : Int), o, b, m, s, t, pu, va, ak, ax, ir, rs⟩) = [.int .u8 2, .int .u8 (n : Int), .int .u8 (flagN o b m s t : Nat)] by
    have := flagN_lt o b m s t
    simp [encS, bodS, bys]
    omega)
  have HF := Lib.hid (rflags_any n o b m s t)
  have hwr := wr8 (show n ≤ 255 by omega)
  generalize flagN o b m s t = fl at *
  go_enter Tryd.func36, Tryd.ntmps36
  go_wp2_with fail
  refine (C.out _).mono ?_
  rintro e w1 ⟨rfl, hb1⟩
  have hs := (SecAt.new w ⟨2, (n : Int), o, b, m, s, t, pu, va, ak, ax, ir, rs⟩ 53).keep hb1 (by simp)
  have hz1 := sz1 hb1
  have hz1' : w.heap.size < w1.heap.size + 1 := by omega
  obtain ⟨c0, c1, c2, c3, c4, c5, c6, c7, c8, c9, c10, c11, c12⟩ := hs.cells
  have HS := Lib.hid hs
  have HB1 := Lib.hid (one hb1)
  have HO1 := Lib.hid (World.ownsRow_lit (base := w.heap.size) (e := 5) (size := 1) w1 #[.int .u8 2] 1 HB1.out.size (by simp [maxLen]) rfl)
  clear hb1 hs C
  go_wp2_with fail
  go_region_held3 (fun w' => w'.cell? ⟨w.heap.size, 1, none⟩ = some (.int .i64 (n : Int)) ∧ w'.cell? ⟨w.heap.size, 2, none⟩ = some (.bool o) ∧ w'.cell? ⟨w.heap.size, 3, none⟩ = some (.bool b) ∧ w'.cell? ⟨w.heap.size, 4, none⟩ = some (.bool m) ∧ w'.cell? ⟨w.heap.size, 5, none⟩ = some (.bool s) ∧ w'.cell? ⟨w.heap.size, 6, none⟩ = some (.bool t)) (go_keep)
    (first
      | (go_at_call 60; refine (HF.out _).mono ?_; rintro e w2 ⟨rfl, hb2⟩; have hc2 := bfar (w1.heap.size + 1) hb2 (by simp); have hz2 : w1.heap.size + 1 ≤ w2.heap.size := (by have := hb2.size; simp at this; omega))
      | (refine step_sl _ elB rfl (.tmp 27) (.tmp 35) rfl rfl ((own_on (own_drew HO1.out) hb2).alloc _) rfl (Sl.lit w2 #[.int .u8 (n : Int), .int .u8 (fl : Int)] _ 2 rfl (by simp [maxLen])) ?_ ?_ ?_ ?_
         (case refine_1 => intro u hu; simp at hu; rcases hu with rfl | rfl <;> rfl)
         (case refine_2 => omega)
         (case refine_3 => simp; omega)
         intro v3 w3 hown3 hg3 hnil3 hat3
         have hb3 : Below w.heap.size w w3 := below_app ((bthen HB1.out (one_drew hb2)).alloc (by omega) _) ((own_on (own_drew HO1.out) hb2).alloc _) hg3 (Nat.le_refl _) (by simp; omega)
         have hc3 : ∀ o, w3.cell? ⟨w.heap.size, o, none⟩ = (w2.alloc (.cells #[.int .u8 (n : Int), .int .u8 (fl : Int)] 5)).cell? ⟨w.heap.size, o, none⟩ := fun o => World.cell?_of_block (a := ⟨w.heap.size, o, none⟩) (hg3.block w.heap.size (by simp; omega) (fun h => by have h' := Option.some.inj (show some w.heap.size = some w1.heap.size from h); omega))))
  have K1 := Lib.hid (show w3.ownsRow w.heap.size 5 1 v3 3 (bys (encS ⟨2, (n : Int), o, b, m, s, t, pu, va, ak, ax, ir, rs⟩)) by
    rw [HE.out]
    exact hown3)
  have K2 := Lib.hid hb3
  clear hown3 hg3 hnil3 hat3 hb3 hc3
  go_wp2
  go_ret2
  exact ⟨K2.out, fun _ => ⟨v3, rfl, K1.out⟩, fun h => absurd HC.out h⟩

set_option maxRecDepth 100000 in
set_option maxHeartbeats 2000000 in
theorem rsencode_11 (io : Int) (o b m s t : Bool) (pu va : Nat) (ak : Int) (ax ir : Nat) (rs : Int) (hc : chkS ⟨11, io, o, b, m, s, t, pu, va, ak, ax, ir, rs⟩ = 0) (w : World) : Calls Tryd.prog 36 #[secV ⟨11, io, o, b, m, s, t, pu, va, ak, ax, ir, rs⟩] w (SEncPost w ⟨11, io, o, b, m, s, t, pu, va, ak, ax, ir, rs⟩) := by
  have C := Lib.hid (show ∀ w, Calls Tryd.prog 34 #[secV ⟨11, io, o, b, m, s, t, pu, va, ak, ax, ir, rs⟩] w fun e w' => e = .returned (.int .i64 0) ∧ Below w.heap.size w w' by
    intro w
    have h := rscheck_any ⟨11, io, o, b, m, s, t, pu, va, ak, ax, ir, rs⟩ w
    unfold CheckPost at h
    rwa [hc] at h)
  have HC := Lib.hid hc
  clear hc
  have HE := Lib.hid (show bys (encS ⟨11, io, o, b, m, s, t, pu, va, ak, ax, ir, rs⟩) = [.int .u8 11, .int .u8 (flagN o b m s t : Nat)] by
    have := flagN_lt o b m s t
    simp [encS, bodS, bys]
    omega)
  have HF := Lib.hid (rflags_any io o b m s t)
  generalize flagN o b m s t = fl at *
  go_enter Tryd.func36, Tryd.ntmps36
  go_wp2_with fail
  refine (C.out _).mono ?_
  rintro e w1 ⟨rfl, hb1⟩
  have hs := (SecAt.new w ⟨11, io, o, b, m, s, t, pu, va, ak, ax, ir, rs⟩ 53).keep hb1 (by simp)
  have hz1 := sz1 hb1
  have hz1' : w.heap.size < w1.heap.size + 1 := by omega
  obtain ⟨c0, c1, c2, c3, c4, c5, c6, c7, c8, c9, c10, c11, c12⟩ := hs.cells
  have HS := Lib.hid hs
  have HB1 := Lib.hid (one hb1)
  have HO1 := Lib.hid (World.ownsRow_lit (base := w.heap.size) (e := 5) (size := 1) w1 #[.int .u8 11] 1 HB1.out.size (by simp [maxLen]) rfl)
  clear hb1 hs C
  go_wp2_with fail
  refine (HF.out _).mono ?_
  rintro e w2 ⟨rfl, hb2⟩
  have HO2 := Lib.hid (own_on HO1.out hb2)
  have HB2 := Lib.hid (bthen HB1.out (one hb2))
  clear hb2
  go_wp2_with (first
    | (at_builtin
       refine app_sl _ elB rfl (.tmp 39) (.tmp 43) rfl rfl (HO2.out.alloc _) rfl (Sl.lit w2 #[.int .u8 (fl : Int)] _ 1 rfl (by simp [maxLen])) ?_ ?_ ?_ ?_
       (case refine_1 => intro u hu; simp at hu; subst hu; rfl)
       (case refine_2 => omega)
       (case refine_3 => exact (HB2.out.alloc HB2.out.size _).size)
       intro v3 w3 hown3 hg3 hnil3 hat3))
  have hb3 : Below w.heap.size w w3 := below_app (HB2.out.alloc HB2.out.size _) (HO2.out.alloc _) hg3 (Nat.le_refl _) (HB2.out.alloc HB2.out.size _).size
  have K1 := Lib.hid (show w3.ownsRow w.heap.size 5 1 v3 2 (bys (encS ⟨11, io, o, b, m, s, t, pu, va, ak, ax, ir, rs⟩)) by
    rw [HE.out]
    exact hown3)
  have K2 := Lib.hid hb3
  clear hown3 hg3 hnil3 hat3 hb3
  go_wp2
  go_ret2
  exact ⟨K2.out, fun _ => ⟨v3, rfl, K1.out⟩, fun h => absurd HC.out h⟩

set_option maxRecDepth 100000 in
set_option maxHeartbeats 2000000 in
theorem rsencode_5 (io : Int) (o b m s t : Bool) (pu va : Nat) (ak : Int) (ax ir n : Nat) (hn : n ≤ 255) (hc : chkS ⟨5, io, o, b, m, s, t, pu, va, ak, ax, ir, (n : Int)⟩ = 0) (w : World) : Calls Tryd.prog 36 #[secV ⟨5, io, o, b, m, s, t, pu, va, ak, ax, ir, (n : Int)⟩] w (SEncPost w ⟨5, io, o, b, m, s, t, pu, va, ak, ax, ir, (n : Int)⟩) := by
  have C := Lib.hid (show ∀ w, Calls Tryd.prog 34 #[secV ⟨5, io, o, b, m, s, t, pu, va, ak, ax, ir, (n : Int)⟩] w fun e w' => e = .returned (.int .i64 0) ∧ Below w.heap.size w w' by
    intro w
    have h := rscheck_any ⟨5, io, o, b, m, s, t, pu, va, ak, ax, ir, (n : Int)⟩ w
    unfold CheckPost at h
    rwa [hc] at h)
  have HC := Lib.hid hc
  clear hc
  have HE := Lib.hid (show bys (encS ⟨5, io, o, b, m, s, t, pu, va, ak, ax, ir, (n : Int)⟩) = [.int .u8 5, .int .u8 (n : Int)] by
    simp [encS, bodS, bys]
    omega)
  have hwr := wr8 (show n ≤ 255 by omega)
  go_enter Tryd.func36, Tryd.ntmps36
  go_wp2_with fail
  refine (C.out _).mono ?_
  rintro e w1 ⟨rfl, hb1⟩
  have hs := (SecAt.new w ⟨5, io, o, b, m, s, t, pu, va, ak, ax, ir, (n : Int)⟩ 53).keep hb1 (by simp)
  have hz1 := sz1 hb1
  have hz1' : w.heap.size < w1.heap.size + 1 := by omega
  obtain ⟨c0, c1, c2, c3, c4, c5, c6, c7, c8, c9, c10, c11, c12⟩ := hs.cells
  have HS := Lib.hid hs
  have HB1 := Lib.hid (one hb1)
  have HO1 := Lib.hid (World.ownsRow_lit (base := w.heap.size) (e := 5) (size := 1) w1 #[.int .u8 5] 1 HB1.out.size (by simp [maxLen]) rfl)
  clear hb1 hs C
  have LIT := Lib.hid (show Sl ((w1.alloc (.cells #[.int .u8 5] 5)).alloc (.cells #[.int .u8 (n : Int)] 5)) (w1.heap.size + 1 + 1) 1 (.slice (some ⟨w1.heap.size + 1, 0, none⟩) 1 1) 1 [.int .u8 (n : Int)] by
    have h := Sl.lit (size := 1) (w1.alloc (.cells #[.int .u8 5] 5)) #[.int .u8 (n : Int)] 5 1 rfl (by simp [maxLen])
    rw [show (w1.alloc (.cells #[.int .u8 5] 5)).heap.size = w1.heap.size + 1 by simp] at h
    exact h)
  go_wp2_with (first
    | (at_builtin
       refine app_sl _ elB rfl (.tmp 47) (.tmp 51) rfl rfl (HO1.out.alloc _) rfl LIT.out ?_ ?_ ?_ ?_
       (case refine_1 => intro u hu; simp at hu; subst hu; rfl)
       (case refine_2 => omega)
       (case refine_3 => exact ((HB1.out.alloc HB1.out.size _).alloc (by have := HB1.out.size; simp; omega) _).size)
       intro v3 w3 hown3 hg3 hnil3 hat3))
  have hb3 : Below w.heap.size w w3 := below_app ((HB1.out.alloc HB1.out.size _).alloc (by have := HB1.out.size; simp; omega) _) (HO1.out.alloc _) hg3 (Nat.le_refl _) ((HB1.out.alloc HB1.out.size _).alloc (by have := HB1.out.size; simp; omega) _).size
  have K1 := Lib.hid (show w3.ownsRow w.heap.size 5 1 v3 2 (bys (encS ⟨5, io, o, b, m, s, t, pu, va, ak, ax, ir, (n : Int)⟩)) by
    rw [HE.out]
    exact hown3)
  have K2 := Lib.hid hb3
  clear hown3 hg3 hnil3 hat3 hb3
  go_wp2
  go_ret2
  exact ⟨K2.out, fun _ => ⟨v3, rfl, K1.out⟩, fun h => absurd HC.out h⟩

set_option maxRecDepth 100000 in
set_option maxHeartbeats 2000000 in
theorem rsencode_12 (io : Int) (o b m s t : Bool) (pu va : Nat) (hp : pu < 4294967296) (ak : Int) (ax ir : Nat) (rs : Int) (hc : chkS ⟨12, io, o, b, m, s, t, pu, va, ak, ax, ir, rs⟩ = 0) (w : World) : Calls Tryd.prog 36 #[secV ⟨12, io, o, b, m, s, t, pu, va, ak, ax, ir, rs⟩] w (SEncPost w ⟨12, io, o, b, m, s, t, pu, va, ak, ax, ir, rs⟩) := by
  have C := Lib.hid (show ∀ w, Calls Tryd.prog 34 #[secV ⟨12, io, o, b, m, s, t, pu, va, ak, ax, ir, rs⟩] w fun e w' => e = .returned (.int .i64 0) ∧ Below w.heap.size w w' by
    intro w
    have h := rscheck_any ⟨12, io, o, b, m, s, t, pu, va, ak, ax, ir, rs⟩ w
    unfold CheckPost at h
    rwa [hc] at h)
  have HC := Lib.hid hc
  clear hc
  have HE := Lib.hid (show bys (encS ⟨12, io, o, b, m, s, t, pu, va, ak, ax, ir, rs⟩) = [.int .u8 12] ++ bys (le 4 pu) by
    simp [encS, bodS, bys])
  have HL := Lib.hid (show (encS ⟨12, io, o, b, m, s, t, pu, va, ak, ax, ir, rs⟩).length = 1 + (le 4 pu).length by
    simp [encS, bodS]; omega)
  go_enter Tryd.func36, Tryd.ntmps36
  go_wp2_with fail
  refine (C.out _).mono ?_
  rintro e w1 ⟨rfl, hb1⟩
  have hs := (SecAt.new w ⟨12, io, o, b, m, s, t, pu, va, ak, ax, ir, rs⟩ 53).keep hb1 (by simp)
  have hz1 := sz1 hb1
  have hz1' : w.heap.size < w1.heap.size + 1 := by omega
  obtain ⟨c0, c1, c2, c3, c4, c5, c6, c7, c8, c9, c10, c11, c12⟩ := hs.cells
  have HS := Lib.hid hs
  have HB1 := Lib.hid (one hb1)
  have HO1 := Lib.hid (World.ownsRow_lit (base := w.heap.size) (e := 5) (size := 1) w1 #[.int .u8 12] 1 HB1.out.size (by simp [maxLen]) rfl)
  clear hb1 hs C
  go_wp2_with fail
  refine (num_any 4 pu _ (by omega) (by omega)).mono ?_
  rintro e w2 ⟨hb2, u, rfl, hu⟩
  have HO2 := Lib.hid (own_on HO1.out hb2)
  have HB2 := Lib.hid (bthen HB1.out (one hb2))
  have HU := Lib.hid (Sl.of_own hu)
  clear hb2 hu
  go_wp2_with (first
    | (at_builtin
       refine app_sl _ elB rfl (.tmp 55) (.tmp 59) rfl rfl (HO2.out) rfl (HU.out) ?_ ?_ ?_ ?_
       (case refine_1 => exact bys_one _)
       (case refine_2 => rw [le_length]; omega)
       (case refine_3 => exact (HB2.out).size)
       intro v3 w3 hown3 hg3 hnil3 hat3))
  have hb3 : Below w.heap.size w w3 := below_app (HB2.out) (HO2.out) hg3 (Nat.le_refl _) (HB2.out).size
  have K1 := Lib.hid (show w3.ownsRow w.heap.size 5 1 v3 (1 + (le 4 pu).length) (bys (encS ⟨12, io, o, b, m, s, t, pu, va, ak, ax, ir, rs⟩)) by
    rw [HE.out]
    exact hown3)
  have K2 := Lib.hid hb3
  clear hown3 hg3 hnil3 hat3 hb3
  go_wp2
  go_ret2
  refine ⟨K2.out, fun _ => ⟨v3, rfl, ?_⟩, fun h => absurd HC.out h⟩
  have hl := HL.out
  rw [hl]
  exact K1.out

set_option maxRecDepth 100000 in
set_option maxHeartbeats 2000000 in
theorem rsencode_3 (io : Int) (o b m s t : Bool) (pu va : Nat) (hp : va < 18446744073709551616) (ak : Int) (ax ir : Nat) (rs : Int) (hc : chkS ⟨3, io, o, b, m, s, t, pu, va, ak, ax, ir, rs⟩ = 0) (w : World) : Calls Tryd.prog 36 #[secV ⟨3, io, o, b, m, s, t, pu, va, ak, ax, ir, rs⟩] w (SEncPost w ⟨3, io, o, b, m, s, t, pu, va, ak, ax, ir, rs⟩) := by
  have C := Lib.hid (show ∀ w, Calls Tryd.prog 34 #[secV ⟨3, io, o, b, m, s, t, pu, va, ak, ax, ir, rs⟩] w fun e w' => e = .returned (.int .i64 0) ∧ Below w.heap.size w w' by
    intro w
    have h := rscheck_any ⟨3, io, o, b, m, s, t, pu, va, ak, ax, ir, rs⟩ w
    unfold CheckPost at h
    rwa [hc] at h)
  have HC := Lib.hid hc
  clear hc
  have HE := Lib.hid (show bys (encS ⟨3, io, o, b, m, s, t, pu, va, ak, ax, ir, rs⟩) = [.int .u8 3] ++ bys (le 8 va) by
    simp [encS, bodS, bys])
  have HL := Lib.hid (show (encS ⟨3, io, o, b, m, s, t, pu, va, ak, ax, ir, rs⟩).length = 1 + (le 8 va).length by
    simp [encS, bodS]; omega)
  go_enter Tryd.func36, Tryd.ntmps36
  go_wp2_with fail
  refine (C.out _).mono ?_
  rintro e w1 ⟨rfl, hb1⟩
  have hs := (SecAt.new w ⟨3, io, o, b, m, s, t, pu, va, ak, ax, ir, rs⟩ 53).keep hb1 (by simp)
  have hz1 := sz1 hb1
  have hz1' : w.heap.size < w1.heap.size + 1 := by omega
  obtain ⟨c0, c1, c2, c3, c4, c5, c6, c7, c8, c9, c10, c11, c12⟩ := hs.cells
  have HS := Lib.hid hs
  have HB1 := Lib.hid (one hb1)
  have HO1 := Lib.hid (World.ownsRow_lit (base := w.heap.size) (e := 5) (size := 1) w1 #[.int .u8 3] 1 HB1.out.size (by simp [maxLen]) rfl)
  clear hb1 hs C
  go_wp2_with fail
  refine (num_any 8 va _ (by omega) (by omega)).mono ?_
  rintro e w2 ⟨hb2, u, rfl, hu⟩
  have HO2 := Lib.hid (own_on HO1.out hb2)
  have HB2 := Lib.hid (bthen HB1.out (one hb2))
  have HU := Lib.hid (Sl.of_own hu)
  clear hb2 hu
  go_wp2_with (first
    | (at_builtin
       refine app_sl _ elB rfl (.tmp 19) (.tmp 22) rfl rfl (HO2.out) rfl (HU.out) ?_ ?_ ?_ ?_
       (case refine_1 => exact bys_one _)
       (case refine_2 => rw [le_length]; omega)
       (case refine_3 => exact (HB2.out).size)
       intro v3 w3 hown3 hg3 hnil3 hat3))
  have hb3 : Below w.heap.size w w3 := below_app (HB2.out) (HO2.out) hg3 (Nat.le_refl _) (HB2.out).size
  have K1 := Lib.hid (show w3.ownsRow w.heap.size 5 1 v3 (1 + (le 8 va).length) (bys (encS ⟨3, io, o, b, m, s, t, pu, va, ak, ax, ir, rs⟩)) by
    rw [HE.out]
    exact hown3)
  have K2 := Lib.hid hb3
  clear hown3 hg3 hnil3 hat3 hb3
  go_wp2
  go_ret2
  refine ⟨K2.out, fun _ => ⟨v3, rfl, ?_⟩, fun h => absurd HC.out h⟩
  have hl := HL.out
  rw [hl]
  exact K1.out

set_option maxRecDepth 100000 in
set_option maxHeartbeats 2000000 in
theorem rsencode_4 (io : Int) (o b m s t : Bool) (pu va : Nat) (hp : va < 18446744073709551616) (ak : Int) (ax ir : Nat) (rs : Int) (hc : chkS ⟨4, io, o, b, m, s, t, pu, va, ak, ax, ir, rs⟩ = 0) (w : World) : Calls Tryd.prog 36 #[secV ⟨4, io, o, b, m, s, t, pu, va, ak, ax, ir, rs⟩] w (SEncPost w ⟨4, io, o, b, m, s, t, pu, va, ak, ax, ir, rs⟩) := by
  have C := Lib.hid (show ∀ w, Calls Tryd.prog 34 #[secV ⟨4, io, o, b, m, s, t, pu, va, ak, ax, ir, rs⟩] w fun e w' => e = .returned (.int .i64 0) ∧ Below w.heap.size w w' by
    intro w
    have h := rscheck_any ⟨4, io, o, b, m, s, t, pu, va, ak, ax, ir, rs⟩ w
    unfold CheckPost at h
    rwa [hc] at h)
  have HC := Lib.hid hc
  clear hc
  have HE := Lib.hid (show bys (encS ⟨4, io, o, b, m, s, t, pu, va, ak, ax, ir, rs⟩) = [.int .u8 4] ++ bys (le 8 va) by
    simp [encS, bodS, bys])
  have HL := Lib.hid (show (encS ⟨4, io, o, b, m, s, t, pu, va, ak, ax, ir, rs⟩).length = 1 + (le 8 va).length by
    simp [encS, bodS]; omega)
  go_enter Tryd.func36, Tryd.ntmps36
  go_wp2_with fail
  refine (C.out _).mono ?_
  rintro e w1 ⟨rfl, hb1⟩
  have hs := (SecAt.new w ⟨4, io, o, b, m, s, t, pu, va, ak, ax, ir, rs⟩ 53).keep hb1 (by simp)
  have hz1 := sz1 hb1
  have hz1' : w.heap.size < w1.heap.size + 1 := by omega
  obtain ⟨c0, c1, c2, c3, c4, c5, c6, c7, c8, c9, c10, c11, c12⟩ := hs.cells
  have HS := Lib.hid hs
  have HB1 := Lib.hid (one hb1)
  have HO1 := Lib.hid (World.ownsRow_lit (base := w.heap.size) (e := 5) (size := 1) w1 #[.int .u8 4] 1 HB1.out.size (by simp [maxLen]) rfl)
  clear hb1 hs C
  go_wp2_with fail
  refine (num_any 8 va _ (by omega) (by omega)).mono ?_
  rintro e w2 ⟨hb2, u, rfl, hu⟩
  have HO2 := Lib.hid (own_on HO1.out hb2)
  have HB2 := Lib.hid (bthen HB1.out (one hb2))
  have HU := Lib.hid (Sl.of_own hu)
  clear hb2 hu
  go_wp2_with (first
    | (at_builtin
       refine app_sl _ elB rfl (.tmp 19) (.tmp 22) rfl rfl (HO2.out) rfl (HU.out) ?_ ?_ ?_ ?_
       (case refine_1 => exact bys_one _)
       (case refine_2 => rw [le_length]; omega)
       (case refine_3 => exact (HB2.out).size)
       intro v3 w3 hown3 hg3 hnil3 hat3))
  have hb3 : Below w.heap.size w w3 := below_app (HB2.out) (HO2.out) hg3 (Nat.le_refl _) (HB2.out).size
  have K1 := Lib.hid (show w3.ownsRow w.heap.size 5 1 v3 (1 + (le 8 va).length) (bys (encS ⟨4, io, o, b, m, s, t, pu, va, ak, ax, ir, rs⟩)) by
    rw [HE.out]
    exact hown3)
  have K2 := Lib.hid hb3
  clear hown3 hg3 hnil3 hat3 hb3
  go_wp2
  go_ret2
  refine ⟨K2.out, fun _ => ⟨v3, rfl, ?_⟩, fun h => absurd HC.out h⟩
  have hl := HL.out
  rw [hl]
  exact K1.out

set_option maxRecDepth 100000 in
set_option maxHeartbeats 2000000 in
theorem rsencode_13 (io : Int) (o b m s t : Bool) (pu va : Nat) (hp : va < 18446744073709551616) (ak : Int) (ax ir : Nat) (rs : Int) (hc : chkS ⟨13, io, o, b, m, s, t, pu, va, ak, ax, ir, rs⟩ = 0) (w : World) : Calls Tryd.prog 36 #[secV ⟨13, io, o, b, m, s, t, pu, va, ak, ax, ir, rs⟩] w (SEncPost w ⟨13, io, o, b, m, s, t, pu, va, ak, ax, ir, rs⟩) := by
  have C := Lib.hid (show ∀ w, Calls Tryd.prog 34 #[secV ⟨13, io, o, b, m, s, t, pu, va, ak, ax, ir, rs⟩] w fun e w' => e = .returned (.int .i64 0) ∧ Below w.heap.size w w' by
    intro w
    have h := rscheck_any ⟨13, io, o, b, m, s, t, pu, va, ak, ax, ir, rs⟩ w
    unfold CheckPost at h
    rwa [hc] at h)
  have HC := Lib.hid hc
  clear hc
  have HE := Lib.hid (show bys (encS ⟨13, io, o, b, m, s, t, pu, va, ak, ax, ir, rs⟩) = [.int .u8 13] ++ bys (le 8 va) by
    simp [encS, bodS, bys])
  have HL := Lib.hid (show (encS ⟨13, io, o, b, m, s, t, pu, va, ak, ax, ir, rs⟩).length = 1 + (le 8 va).length by
    simp [encS, bodS]; omega)
  go_enter Tryd.func36, Tryd.ntmps36
  go_wp2_with fail
  refine (C.out _).mono ?_
  rintro e w1 ⟨rfl, hb1⟩
  have hs := (SecAt.new w ⟨13, io, o, b, m, s, t, pu, va, ak, ax, ir, rs⟩ 53).keep hb1 (by simp)
  have hz1 := sz1 hb1
  have hz1' : w.heap.size < w1.heap.size + 1 := by omega
  obtain ⟨c0, c1, c2, c3, c4, c5, c6, c7, c8, c9, c10, c11, c12⟩ := hs.cells
  have HS := Lib.hid hs
  have HB1 := Lib.hid (one hb1)
  have HO1 := Lib.hid (World.ownsRow_lit (base := w.heap.size) (e := 5) (size := 1) w1 #[.int .u8 13] 1 HB1.out.size (by simp [maxLen]) rfl)
  clear hb1 hs C
  go_wp2_with fail
  refine (num_any 8 va _ (by omega) (by omega)).mono ?_
  rintro e w2 ⟨hb2, u, rfl, hu⟩
  have HO2 := Lib.hid (own_on HO1.out hb2)
  have HB2 := Lib.hid (bthen HB1.out (one hb2))
  have HU := Lib.hid (Sl.of_own hu)
  clear hb2 hu
  go_wp2_with (first
    | (at_builtin
       refine app_sl _ elB rfl (.tmp 19) (.tmp 22) rfl rfl (HO2.out) rfl (HU.out) ?_ ?_ ?_ ?_
       (case refine_1 => exact bys_one _)
       (case refine_2 => rw [le_length]; omega)
       (case refine_3 => exact (HB2.out).size)
       intro v3 w3 hown3 hg3 hnil3 hat3))
  have hb3 : Below w.heap.size w w3 := below_app (HB2.out) (HO2.out) hg3 (Nat.le_refl _) (HB2.out).size
  have K1 := Lib.hid (show w3.ownsRow w.heap.size 5 1 v3 (1 + (le 8 va).length) (bys (encS ⟨13, io, o, b, m, s, t, pu, va, ak, ax, ir, rs⟩)) by
    rw [HE.out]
    exact hown3)
  have K2 := Lib.hid hb3
  clear hown3 hg3 hnil3 hat3 hb3
  go_wp2
  go_ret2
  refine ⟨K2.out, fun _ => ⟨v3, rfl, ?_⟩, fun h => absurd HC.out h⟩
  have hl := HL.out
  rw [hl]
  exact K1.out

set_option maxRecDepth 100000 in
set_option maxHeartbeats 2000000 in
theorem rsencode_8 (io : Int) (o b m s t : Bool) (pu va : Nat) (ak : Int) (ax ir : Nat) (hi : ir < 18446744073709551616) (rs : Int) (hc : chkS ⟨8, io, o, b, m, s, t, pu, va, ak, ax, ir, rs⟩ = 0) (w : World) :
    Calls Tryd.prog 36 #[secV ⟨8, io, o, b, m, s, t, pu, va, ak, ax, ir, rs⟩] w (SEncPost w ⟨8, io, o, b, m, s, t, pu, va, ak, ax, ir, rs⟩) := by
  have C := Lib.hid (show ∀ w, Calls Tryd.prog 34 #[secV ⟨8, io, o, b, m, s, t, pu, va, ak, ax, ir, rs⟩] w fun e w' => e = .returned (.int .i64 0) ∧ Below w.heap.size w w' by
    intro w
    have h := rscheck_any ⟨8, io, o, b, m, s, t, pu, va, ak, ax, ir, rs⟩ w
    unfold CheckPost at h
    rwa [hc] at h)
  have HC := Lib.hid hc
  have hca := ((chkS_ok hc).2.2.2.1 rfl).1
  have N := Lib.hid (show ∀ W : World, Calls Tryd.prog 28 #[adr ak ax] W fun e w' => Below W.heap.size W w' ∧ ∃ u, e = .returned (.tuple #[u, .int .i64 0]) ∧ w'.ownsRow W.heap.size 5 1 u 7 (bys (encA ak ax)) from
    fun W => (rencode_any ak ax W).mono fun e w' hh => ⟨hh.1, hh.2.1 hca⟩)
  have HE := Lib.hid (show bys (encS ⟨8, io, o, b, m, s, t, pu, va, ak, ax, ir, rs⟩) = [.int .u8 8] ++ bys (le 8 ir) ++ bys (encA ak ax) by
    simp [encS, bodS, bys])
  have HL := Lib.hid (show (encS ⟨8, io, o, b, m, s, t, pu, va, ak, ax, ir, rs⟩).length = 1 + (le 8 ir).length + 7 by
    simp [encS, bodS, encA_length]; omega)
  clear hc hca
  go_enter Tryd.func36, Tryd.ntmps36
  go_wp2_with fail
  refine (C.out _).mono ?_
  rintro e w1 ⟨rfl, hb1⟩
  have hs := (SecAt.new w ⟨8, io, o, b, m, s, t, pu, va, ak, ax, ir, rs⟩ 53).keep hb1 (by simp)
  have hz1 := sz1 hb1
  have hz1' : w.heap.size < w1.heap.size + 1 := by omega
  obtain ⟨c0, c1, c2, c3, c4, c5, c6, c7, c8, c9, c10, c11, c12⟩ := hs.cells
  have HS := Lib.hid hs
  have HB1 := Lib.hid (one hb1)
  have HO1 := Lib.hid (World.ownsRow_lit (base := w.heap.size) (e := 5) (size := 1) w1 #[.int .u8 8] 1 HB1.out.size (by simp [maxLen]) rfl)
  clear hb1 hs C
  go_wp2_with fail
  refine (N.out _).mono ?_
  rintro e w2 ⟨hb2, u, rfl, hu⟩
  clear c0 c1 c2 c3 c4 c5 c6 c7 c8 c9 c10 c11 c12
  have hs2 := (HS.out.keep (al1 w1 (.cells #[.int .u8 8] 5)) hz1).keep hb2 (by simp; omega)
  obtain ⟨c0, c1, c2, c3, c4, c5, c6, c7, c8, c9, c10, c11, c12⟩ := hs2.cells
  have hz2 : w.heap.size < w2.heap.size := by have := sz1 hb2; omega
  have HO2 := Lib.hid (own_on HO1.out hb2)
  have HB2 := Lib.hid (bthen HB1.out (one hb2))
  have HU := Lib.hid hu
  have HAP := Lib.hid (show Apart (.slice (some ⟨w1.heap.size, 0, none⟩) 1 1) u from by
    intro g h1 h2
    have h3 := (HU.out.lt g h2).1
    have h4 : w1.heap.size = g := Option.some.inj h1
    simp at h3
    omega)
  clear hb2 hu hs2
  go_wp2_with fail
  refine (num_any 8 ir _ (by omega) (by omega)).mono ?_
  rintro e w3 ⟨hb3, x, rfl, hx⟩
  have HO3 := Lib.hid (own_on HO2.out hb3)
  have HU3 := Lib.hid (own_on HU.out hb3)
  have HB3 := Lib.hid (bthen HB2.out hb3)
  have HX := Lib.hid (Sl.of_own hx)
  clear hb3 hx
  go_wp2_with (first
    | (at_builtin
       refine app_sl _ elB rfl (.tmp 70) (.tmp 74) rfl rfl HO3.out rfl HX.out ?_ ?_ ?_ ?_
       (case refine_1 => exact bys_one _)
       (case refine_2 => rw [le_length]; omega)
       (case refine_3 => exact HB3.out.size)
       intro v4 w4 hown4 hg4 hnil4 hat4
       have hb4 : Below w.heap.size w w4 := below_app HB3.out HO3.out hg4 (Nat.le_refl _) HB3.out.size
       have hu4 := own_apart HU3.out hg4 HAP.out.row
       have hap4 := HAP.out.left HU3.out hat4)
    | (at_builtin
       refine app_sl _ elB rfl (.tmp 76) (.tmp 77) rfl rfl hown4 rfl (Sl.of_own hu4) ?_ ?_ ?_ ?_
       (case refine_1 => exact bys_one _)
       (case refine_2 => rw [le_length]; omega)
       (case refine_3 => exact hb4.size)
       intro v5 w5 hown5 hg5 hnil5 hat5))
  have hb5 : Below w.heap.size w w5 := below_app hb4 hown4 hg5 (Nat.le_refl _) hb4.size
  have K1 := Lib.hid hown5
  have K2 := Lib.hid hb5
  clear hown5 hg5 hnil5 hat5 hb5
  go_wp2
  go_ret2
  refine ⟨K2.out, fun _ => ⟨v5, rfl, ?_⟩, fun h => absurd HC.out h⟩
  rw [HL.out, HE.out]
  exact K1.out

/-- The reference's Encode returns the bytes of a PDU, or its error. -/
theorem rsencode_any (p : Sec) (hr : SecOk p) (w : World) : Calls Tryd.prog 36 #[secV p] w (SEncPost w p) := by
  by_cases hc : chkS p = 0
  · obtain ⟨hh, hu, hf, hi, hs⟩ := chkS_ok hc
    obtain ⟨k, io, o, b, m, s, t, pu, va, ak, ax, ir, rs⟩ := p
    obtain ⟨r1, r2, r3, r4⟩ := hr
    have hk := hasK_yes hh
    simp only at hk hf hi hs r1 r2 r3 r4
    clear hh hu
    rcases hk with hk | hk | hk | hk | hk | hk | hk | hk | hk
    all_goals subst hk
    · obtain ⟨h0, h4⟩ := hf (by omega)
      obtain ⟨n, rfl⟩ := Int.eq_ofNat_of_zero_le h0
      exact rsencode_1 n (by omega) o b m s t pu va ak ax ir rs hc w
    · obtain ⟨h0, h4⟩ := hf (by omega)
      obtain ⟨n, rfl⟩ := Int.eq_ofNat_of_zero_le h0
      exact rsencode_2 n (by omega) o b m s t pu va ak ax ir rs hc w
    · exact rsencode_3 io o b m s t pu va r2 ak ax ir rs hc w
    · exact rsencode_4 io o b m s t pu va r2 ak ax ir rs hc w
    · obtain ⟨h0, h4⟩ := hs rfl
      obtain ⟨n, rfl⟩ := Int.eq_ofNat_of_zero_le (show 0 ≤ rs by omega)
      exact rsencode_5 io o b m s t pu va ak ax ir n (by omega) hc w
    · exact rsencode_8 io o b m s t pu va ak ax ir r4 rs hc w
    · exact rsencode_11 io o b m s t pu va ak ax ir rs hc w
    · exact rsencode_12 io o b m s t pu va r1 ak ax ir rs hc w
    · exact rsencode_13 io o b m s t pu va r2 ak ax ir rs hc w
  · exact rsencode_bad p hc w
end Go.Proofs.YtpomobeogkfmfaaDoor
