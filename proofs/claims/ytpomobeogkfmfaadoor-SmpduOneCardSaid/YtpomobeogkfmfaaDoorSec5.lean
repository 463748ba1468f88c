/- Walks of the reference of package smpdu: CheckIdentity, Check. -/
import Derived.Test.YtpomobeogkfmfaaDoorSec3
import Derived.Test.YtpomobeogkfmfaaDoorSec4
import Derived.Test.YtpomobeogkfmfaaDoorApart
import Derived.Deep.RegionHeld3
namespace Go.Proofs.YtpomobeogkfmfaaDoor
open Go.RowKit

abbrev idV (ak : Int) (ax ir : Nat) : Value := .agg #[.int .i64 ak, .int .u64 (ax : Int), .int .u64 (ir : Int)]

set_option maxRecDepth 100000 in
set_option maxHeartbeats 1000000 in
theorem rident_1 (ax ir : Nat) (hc : chkA 1 ax = 0) (w : World) : Calls Tryd.prog 57 #[idV 1 ax ir] w fun e w' => e = .returned (.int .i64 0) ∧ Below w.heap.size w w' := by
  have C := Lib.hid (rcheck_any 1 ax)
  rw [hc] at C
  clear hc
  go_enter Tryd.func57, Tryd.ntmps57
  go_wp2_with fail
  refine (C.out _).mono ?_
  rintro e w1 ⟨rfl, hb1⟩
  have hl0 : w1.cell? ⟨w.heap.size, 0, none⟩ = some (.int .i64 1) := by rw [blow hb1 w.heap.size 0 (by simp)]; simp [go_sem]
  have hz1 := sz1 hb1
  have HB1 := Lib.hid (one hb1)
  clear hb1
  go_wp2_with fail
  go_ret
  exact ⟨rfl, HB1.out⟩

set_option maxRecDepth 100000 in
set_option maxHeartbeats 1000000 in
theorem rident_2 (ax ir : Nat) (hc : chkA 2 ax = 0) (w : World) : Calls Tryd.prog 57 #[idV 2 ax ir] w fun e w' => e = .returned (.int .i64 0) ∧ Below w.heap.size w w' := by
  have C := Lib.hid (rcheck_any 2 ax)
  rw [hc] at C
  clear hc
  go_enter Tryd.func57, Tryd.ntmps57
  go_wp2_with fail
  refine (C.out _).mono ?_
  rintro e w1 ⟨rfl, hb1⟩
  have hl0 : w1.cell? ⟨w.heap.size, 0, none⟩ = some (.int .i64 2) := by rw [blow hb1 w.heap.size 0 (by simp)]; simp [go_sem]
  have hz1 := sz1 hb1
  have HB1 := Lib.hid (one hb1)
  clear hb1
  go_wp2_with fail
  go_ret
  exact ⟨rfl, HB1.out⟩

set_option maxRecDepth 100000 in
set_option maxHeartbeats 1000000 in
theorem rident_else (ak : Int) (ax ir : Nat) (hc : chkA ak ax = 0) (h1 : ak ≠ 1) (h2 : ak ≠ 2) (w : World) : Calls Tryd.prog 57 #[idV ak ax ir] w fun e w' => e = .returned (.int .i64 1) ∧ Below w.heap.size w w' := by
  have C := Lib.hid (rcheck_any ak ax)
  rw [hc] at C
  have g1 : (ak != 1) = true := ne_bool h1
  have g2 : (ak != 2) = true := ne_bool h2
  clear hc h1 h2
  go_enter Tryd.func57, Tryd.ntmps57
  go_wp2_with fail
  refine (C.out _).mono ?_
  rintro e w1 ⟨rfl, hb1⟩
  have hl0 : w1.cell? ⟨w.heap.size, 0, none⟩ = some (.int .i64 ak) := by rw [blow hb1 w.heap.size 0 (by simp)]; simp [go_sem]
  have hz1 := sz1 hb1
  have HB1 := Lib.hid (one hb1)
  clear hb1
  go_wp2_with fail
  go_ret
  exact ⟨rfl, HB1.out⟩

set_option maxRecDepth 100000 in
set_option maxHeartbeats 1000000 in
theorem rident_bad (ak : Int) (ax ir : Nat) (hc : chkA ak ax ≠ 0) (w : World) : Calls Tryd.prog 57 #[idV ak ax ir] w fun e w' => e = .returned (.int .i64 (chkA ak ax)) ∧ Below w.heap.size w w' := by
  have C := Lib.hid (rcheck_any ak ax)
  have hc' := ne_bool hc
  clear hc
  generalize chkA ak ax = cc at *
  go_enter Tryd.func57, Tryd.ntmps57
  go_wp2_with fail
  refine (C.out _).mono ?_
  rintro e w1 ⟨rfl, hb1⟩
  have HB1 := Lib.hid (one hb1)
  clear hb1
  go_wp2_with fail
  go_ret
  exact ⟨rfl, HB1.out⟩

theorem rident_any (ak : Int) (ax ir : Nat) (w : World) : Calls Tryd.prog 57 #[idV ak ax ir] w fun e w' => e = .returned (.int .i64 (chkI ak ax)) ∧ Below w.heap.size w w' := by
  by_cases hc : chkA ak ax = 0
  · by_cases h1 : ak = 1
    · rw [show chkI ak ax = 0 by unfold chkI; rw [if_neg (by simp [hc]), if_neg (by omega)]]
      subst h1
      exact rident_1 ax ir hc w
    · by_cases h2 : ak = 2
      · rw [show chkI ak ax = 0 by unfold chkI; rw [if_neg (by simp [hc]), if_neg (by omega)]]
        subst h2
        exact rident_2 ax ir hc w
      · rw [show chkI ak ax = 1 by unfold chkI; rw [if_neg (by simp [hc]), if_pos ⟨h1, h2⟩]]
        exact rident_else ak ax ir hc h1 h2 w
  · rw [show chkI ak ax = chkA ak ax by unfold chkI; rw [if_pos hc]]
    exact rident_bad ak ax ir hc w

theorem lenK_ne {k : Int} (h : hasK k = true) : (lenK k == 0) = false := by
  rcases hasK_yes h with rfl | rfl | rfl | rfl | rfl | rfl | rfl | rfl | rfl <;> rfl
theorem lenK_no {k : Int} (h : ¬ hasK k = true) : lenK k = 0 := by
  have h' := hasK_no h
  unfold lenK
  rw [if_neg (by omega), if_neg (by omega), if_neg (by omega), if_neg (by omega), if_neg (by omega)]

set_option maxRecDepth 100000 in
set_option maxHeartbeats 4000000 in
theorem rscheck_kind (p : Sec) (h : ¬ hasK p.kind = true) (w : World) : Calls Tryd.prog 34 #[secV p] w (CheckPost w p) := by
  have HV := Lib.hid (show chkS p = 12 by unfold chkS; rw [if_pos (by simpa using h)])
  have hl := lenK_no h
  clear h
  go_enter Tryd.func34, Tryd.ntmps34
  go_wp2_with fail
  refine (length_any p.kind _).mono ?_
  rintro e w1 ⟨rfl, rfl⟩
  rw [hl]
  go_wp2_with fail
  go_ret
  exact ⟨by rw [HV.out]; rfl, al1 _ _⟩

set_option maxRecDepth 100000 in
set_option maxHeartbeats 4000000 in
theorem rscheck_used (p : Sec) (h : hasK p.kind = true) (hu : usedS p ≠ p) (w : World) : Calls Tryd.prog 34 #[secV p] w (CheckPost w p) := by
  have HV := Lib.hid (show chkS p = 1 by unfold chkS; rw [if_neg (by simp [h]), if_pos hu])
  have hn : ∀ w, (binOp .neq 53 (secV p) (secV (usedS p))).run Tryd.prog w = .ok (.bool true) w := by
    intro w
    rw [run_neq_sec, decide_eq_true (Ne.symm hu)]
  have C := Lib.hid (rused_yes p h)
  have hl := lenK_ne h
  clear h hu
  generalize usedS p = u at *
  go_enter Tryd.func34, Tryd.ntmps34
  go_wp2_with fail
  refine (length_any p.kind _).mono ?_
  rintro e w1 ⟨rfl, rfl⟩
  generalize lenK p.kind = n at *
  go_wp2_with fail
  go_region_held3 (fun w' => w'.cell? ⟨w.heap.size, 0, none⟩ = some (.int .i64 p.kind) ∧ w'.cell? ⟨w.heap.size, 1, none⟩ = some (.int .i64 p.io) ∧ w'.cell? ⟨w.heap.size, 2, none⟩ = some (.bool p.oob) ∧ w'.cell? ⟨w.heap.size, 3, none⟩ = some (.bool p.bond) ∧ w'.cell? ⟨w.heap.size, 4, none⟩ = some (.bool p.mitm) ∧ w'.cell? ⟨w.heap.size, 5, none⟩ = some (.bool p.send) ∧ w'.cell? ⟨w.heap.size, 6, none⟩ = some (.bool p.take) ∧ w'.cell? ⟨w.heap.size, 7, none⟩ = some (.int .u32 (p.pub : Int)) ∧ w'.cell? ⟨w.heap.size, 8, none⟩ = some (.int .u64 (p.val : Int)) ∧ w'.cell? ⟨w.heap.size, 9, none⟩ = some (.int .i64 p.ak) ∧ w'.cell? ⟨w.heap.size, 10, none⟩ = some (.int .u64 (p.ax : Int)) ∧ w'.cell? ⟨w.heap.size, 11, none⟩ = some (.int .u64 (p.irk : Int)) ∧ w'.cell? ⟨w.heap.size, 12, none⟩ = some (.int .i64 p.rsn)) (go_keep)
    (first | (go_at_call 55; refine (C.out _).mono ?_; rintro e w2 ⟨rfl, hb2⟩; have hc2 := bfar (w.heap.size + 1) hb2 (by simp); have hz2 : w.heap.size + 1 ≤ w2.heap.size := (by have := hb2.size; simp at this; omega)))
  go_wp2_with fail
  go_ret
  exact ⟨by rw [HV.out]; rfl, one_drew hb2⟩

set_option maxRecDepth 100000 in
set_option maxHeartbeats 4000000 in
theorem rscheck_plain (p : Sec) (hh : hasK p.kind = true) (hk : p.kind ≠ 1 ∧ p.kind ≠ 2 ∧ p.kind ≠ 8 ∧ p.kind ≠ 5) (hu : usedS p = p) (w : World) : Calls Tryd.prog 34 #[secV p] w (CheckPost w p) := by
  have HV := Lib.hid (show chkS p = 0 by unfold chkS; rw [if_neg (by simp [hh]), if_neg (by simp [hu]), if_neg (by omega), if_neg (by omega), if_neg (by omega)])
  have hn : ∀ w, (binOp .neq 53 (secV p) (secV p)).run Tryd.prog w = .ok (.bool false) w := by
    intro w
    rw [run_neq_sec, decide_eq_false (Decidable.not_not.2 rfl)]
  have C := rused_yes p hh
  rw [hu] at C
  have HC := Lib.hid C
  have hl := lenK_ne hh
  have f1 : (p.kind == 1) = false := neq_bool hk.1
  have f2 : (p.kind == 2) = false := neq_bool hk.2.1
  have f8 : (p.kind == 8) = false := neq_bool hk.2.2.1
  have f5 : (p.kind == 5) = false := neq_bool hk.2.2.2
  clear hu hk C hh
  go_enter Tryd.func34, Tryd.ntmps34
  go_wp2_with fail
  refine (length_any p.kind _).mono ?_
  rintro e w1 ⟨rfl, rfl⟩
  generalize lenK p.kind = n at *
  go_wp2_with fail
  go_region_held3 (fun w' => w'.cell? ⟨w.heap.size, 0, none⟩ = some (.int .i64 p.kind) ∧ w'.cell? ⟨w.heap.size, 1, none⟩ = some (.int .i64 p.io) ∧ w'.cell? ⟨w.heap.size, 2, none⟩ = some (.bool p.oob) ∧ w'.cell? ⟨w.heap.size, 3, none⟩ = some (.bool p.bond) ∧ w'.cell? ⟨w.heap.size, 4, none⟩ = some (.bool p.mitm) ∧ w'.cell? ⟨w.heap.size, 5, none⟩ = some (.bool p.send) ∧ w'.cell? ⟨w.heap.size, 6, none⟩ = some (.bool p.take) ∧ w'.cell? ⟨w.heap.size, 7, none⟩ = some (.int .u32 (p.pub : Int)) ∧ w'.cell? ⟨w.heap.size, 8, none⟩ = some (.int .u64 (p.val : Int)) ∧ w'.cell? ⟨w.heap.size, 9, none⟩ = some (.int .i64 p.ak) ∧ w'.cell? ⟨w.heap.size, 10, none⟩ = some (.int .u64 (p.ax : Int)) ∧ w'.cell? ⟨w.heap.size, 11, none⟩ = some (.int .u64 (p.irk : Int)) ∧ w'.cell? ⟨w.heap.size, 12, none⟩ = some (.int .i64 p.rsn)) (go_keep)
    (first | (go_at_call 55; refine (HC.out _).mono ?_; rintro e w2 ⟨rfl, hb2⟩; have hc2 := bfar (w.heap.size + 1) hb2 (by simp); have hz2 : w.heap.size + 1 ≤ w2.heap.size := (by have := hb2.size; simp at this; omega)))
  have hs : SecAt w2 w.heap.size p := fun j u hu => (blow hb2 w.heap.size j (by simp)).trans (SecAt.new w p 53 j u hu)
  obtain ⟨c0, c1, c2, c3, c4, c5, c6, c7, c8, c9, c10, c11, c12⟩ := hs.cells
  have HB2 := Lib.hid (one_drew hb2)
  clear hb2 hs hc2
  go_wp2_with fail
  go_ret
  exact ⟨by rw [HV.out]; rfl, HB2.out⟩

set_option maxRecDepth 100000 in
set_option maxHeartbeats 4000000 in
theorem rscheck_1 (p : Sec) (hk : p.kind = 1) (hu : usedS p = p) (w : World) : Calls Tryd.prog 34 #[secV p] w (CheckPost w p) := by
  have HV := Lib.hid (show chkS p = chkF p.io by unfold chkS; rw [if_neg (by rw [hk]; decide), if_neg (by simp [hu]), if_pos (by omega)])
  have hn : ∀ w, (binOp .neq 53 (secV p) (secV p)).run Tryd.prog w = .ok (.bool false) w := by
    intro w
    rw [run_neq_sec, decide_eq_false (Decidable.not_not.2 rfl)]
  have C := rused_yes p (by rw [hk]; rfl)
  rw [hu] at C
  have HC := Lib.hid C
  have hl := lenK_ne (show hasK p.kind = true by rw [hk]; rfl)
  have f1 : (p.kind == 1) = true := eqq_bool hk
  have f2 : (p.kind == 2) = false := neq_bool (by omega)
  have f8 : (p.kind == 8) = false := neq_bool (by omega)
  have f5 : (p.kind == 5) = false := neq_bool (by omega)
  clear hu hk C
  go_enter Tryd.func34, Tryd.ntmps34
  go_wp2_with fail
  refine (length_any p.kind _).mono ?_
  rintro e w1 ⟨rfl, rfl⟩
  generalize lenK p.kind = n at *
  go_wp2_with fail
  go_region_held3 (fun w' => w'.cell? ⟨w.heap.size, 0, none⟩ = some (.int .i64 p.kind) ∧ w'.cell? ⟨w.heap.size, 1, none⟩ = some (.int .i64 p.io) ∧ w'.cell? ⟨w.heap.size, 2, none⟩ = some (.bool p.oob) ∧ w'.cell? ⟨w.heap.size, 3, none⟩ = some (.bool p.bond) ∧ w'.cell? ⟨w.heap.size, 4, none⟩ = some (.bool p.mitm) ∧ w'.cell? ⟨w.heap.size, 5, none⟩ = some (.bool p.send) ∧ w'.cell? ⟨w.heap.size, 6, none⟩ = some (.bool p.take) ∧ w'.cell? ⟨w.heap.size, 7, none⟩ = some (.int .u32 (p.pub : Int)) ∧ w'.cell? ⟨w.heap.size, 8, none⟩ = some (.int .u64 (p.val : Int)) ∧ w'.cell? ⟨w.heap.size, 9, none⟩ = some (.int .i64 p.ak) ∧ w'.cell? ⟨w.heap.size, 10, none⟩ = some (.int .u64 (p.ax : Int)) ∧ w'.cell? ⟨w.heap.size, 11, none⟩ = some (.int .u64 (p.irk : Int)) ∧ w'.cell? ⟨w.heap.size, 12, none⟩ = some (.int .i64 p.rsn)) (go_keep)
    (first | (go_at_call 55; refine (HC.out _).mono ?_; rintro e w2 ⟨rfl, hb2⟩; have hc2 := bfar (w.heap.size + 1) hb2 (by simp); have hz2 : w.heap.size + 1 ≤ w2.heap.size := (by have := hb2.size; simp at this; omega)))
  have hs : SecAt w2 w.heap.size p := fun j u hu => (blow hb2 w.heap.size j (by simp)).trans (SecAt.new w p 53 j u hu)
  obtain ⟨c0, c1, c2, c3, c4, c5, c6, c7, c8, c9, c10, c11, c12⟩ := hs.cells
  have HB2 := Lib.hid (one_drew hb2)
  clear hb2 hs hc2
  go_wp2_with fail
  refine (rmcheck_any p.io p.oob p.bond p.mitm p.send p.take _).mono ?_
  rintro e w3 ⟨rfl, hb3⟩
  go_wp2_with fail
  go_ret
  exact ⟨by rw [HV.out]; rfl, bthen HB2.out hb3⟩

set_option maxRecDepth 100000 in
set_option maxHeartbeats 4000000 in
theorem rscheck_2 (p : Sec) (hk : p.kind = 2) (hu : usedS p = p) (w : World) : Calls Tryd.prog 34 #[secV p] w (CheckPost w p) := by
  have HV := Lib.hid (show chkS p = chkF p.io by unfold chkS; rw [if_neg (by rw [hk]; decide), if_neg (by simp [hu]), if_pos (by omega)])
  have hn : ∀ w, (binOp .neq 53 (secV p) (secV p)).run Tryd.prog w = .ok (.bool false) w := by
    intro w
    rw [run_neq_sec, decide_eq_false (Decidable.not_not.2 rfl)]
  have C := rused_yes p (by rw [hk]; rfl)
  rw [hu] at C
  have HC := Lib.hid C
  have hl := lenK_ne (show hasK p.kind = true by rw [hk]; rfl)
  have f1 : (p.kind == 1) = false := neq_bool (by omega)
  have f2 : (p.kind == 2) = true := eqq_bool hk
  have f8 : (p.kind == 8) = false := neq_bool (by omega)
  have f5 : (p.kind == 5) = false := neq_bool (by omega)
  clear hu hk C
  go_enter Tryd.func34, Tryd.ntmps34
  go_wp2_with fail
  refine (length_any p.kind _).mono ?_
  rintro e w1 ⟨rfl, rfl⟩
  generalize lenK p.kind = n at *
  go_wp2_with fail
  go_region_held3 (fun w' => w'.cell? ⟨w.heap.size, 0, none⟩ = some (.int .i64 p.kind) ∧ w'.cell? ⟨w.heap.size, 1, none⟩ = some (.int .i64 p.io) ∧ w'.cell? ⟨w.heap.size, 2, none⟩ = some (.bool p.oob) ∧ w'.cell? ⟨w.heap.size, 3, none⟩ = some (.bool p.bond) ∧ w'.cell? ⟨w.heap.size, 4, none⟩ = some (.bool p.mitm) ∧ w'.cell? ⟨w.heap.size, 5, none⟩ = some (.bool p.send) ∧ w'.cell? ⟨w.heap.size, 6, none⟩ = some (.bool p.take) ∧ w'.cell? ⟨w.heap.size, 7, none⟩ = some (.int .u32 (p.pub : Int)) ∧ w'.cell? ⟨w.heap.size, 8, none⟩ = some (.int .u64 (p.val : Int)) ∧ w'.cell? ⟨w.heap.size, 9, none⟩ = some (.int .i64 p.ak) ∧ w'.cell? ⟨w.heap.size, 10, none⟩ = some (.int .u64 (p.ax : Int)) ∧ w'.cell? ⟨w.heap.size, 11, none⟩ = some (.int .u64 (p.irk : Int)) ∧ w'.cell? ⟨w.heap.size, 12, none⟩ = some (.int .i64 p.rsn)) (go_keep)
    (first | (go_at_call 55; refine (HC.out _).mono ?_; rintro e w2 ⟨rfl, hb2⟩; have hc2 := bfar (w.heap.size + 1) hb2 (by simp); have hz2 : w.heap.size + 1 ≤ w2.heap.size := (by have := hb2.size; simp at this; omega)))
  have hs : SecAt w2 w.heap.size p := fun j u hu => (blow hb2 w.heap.size j (by simp)).trans (SecAt.new w p 53 j u hu)
  obtain ⟨c0, c1, c2, c3, c4, c5, c6, c7, c8, c9, c10, c11, c12⟩ := hs.cells
  have HB2 := Lib.hid (one_drew hb2)
  clear hb2 hs hc2
  go_wp2_with fail
  refine (rmcheck_any p.io p.oob p.bond p.mitm p.send p.take _).mono ?_
  rintro e w3 ⟨rfl, hb3⟩
  go_wp2_with fail
  go_ret
  exact ⟨by rw [HV.out]; rfl, bthen HB2.out hb3⟩

set_option maxRecDepth 100000 in
set_option maxHeartbeats 4000000 in
theorem rscheck_8 (p : Sec) (hk : p.kind = 8) (hu : usedS p = p) (w : World) : Calls Tryd.prog 34 #[secV p] w (CheckPost w p) := by
  have HV := Lib.hid (show chkS p = chkI p.ak p.ax by unfold chkS; rw [if_neg (by rw [hk]; decide), if_neg (by simp [hu]), if_neg (by omega), if_pos hk])
  have hn : ∀ w, (binOp .neq 53 (secV p) (secV p)).run Tryd.prog w = .ok (.bool false) w := by
    intro w
    rw [run_neq_sec, decide_eq_false (Decidable.not_not.2 rfl)]
  have C := rused_yes p (by rw [hk]; rfl)
  rw [hu] at C
  have HC := Lib.hid C
  have hl := lenK_ne (show hasK p.kind = true by rw [hk]; rfl)
  have f1 : (p.kind == 1) = false := neq_bool (by omega)
  have f2 : (p.kind == 2) = false := neq_bool (by omega)
  have f8 : (p.kind == 8) = true := eqq_bool hk
  have f5 : (p.kind == 5) = false := neq_bool (by omega)
  clear hu hk C
  go_enter Tryd.func34, Tryd.ntmps34
  go_wp2_with fail
  refine (length_any p.kind _).mono ?_
  rintro e w1 ⟨rfl, rfl⟩
  generalize lenK p.kind = n at *
  go_wp2_with fail
  go_region_held3 (fun w' => w'.cell? ⟨w.heap.size, 0, none⟩ = some (.int .i64 p.kind) ∧ w'.cell? ⟨w.heap.size, 1, none⟩ = some (.int .i64 p.io) ∧ w'.cell? ⟨w.heap.size, 2, none⟩ = some (.bool p.oob) ∧ w'.cell? ⟨w.heap.size, 3, none⟩ = some (.bool p.bond) ∧ w'.cell? ⟨w.heap.size, 4, none⟩ = some (.bool p.mitm) ∧ w'.cell? ⟨w.heap.size, 5, none⟩ = some (.bool p.send) ∧ w'.cell? ⟨w.heap.size, 6, none⟩ = some (.bool p.take) ∧ w'.cell? ⟨w.heap.size, 7, none⟩ = some (.int .u32 (p.pub : Int)) ∧ w'.cell? ⟨w.heap.size, 8, none⟩ = some (.int .u64 (p.val : Int)) ∧ w'.cell? ⟨w.heap.size, 9, none⟩ = some (.int .i64 p.ak) ∧ w'.cell? ⟨w.heap.size, 10, none⟩ = some (.int .u64 (p.ax : Int)) ∧ w'.cell? ⟨w.heap.size, 11, none⟩ = some (.int .u64 (p.irk : Int)) ∧ w'.cell? ⟨w.heap.size, 12, none⟩ = some (.int .i64 p.rsn)) (go_keep)
    (first | (go_at_call 55; refine (HC.out _).mono ?_; rintro e w2 ⟨rfl, hb2⟩; have hc2 := bfar (w.heap.size + 1) hb2 (by simp); have hz2 : w.heap.size + 1 ≤ w2.heap.size := (by have := hb2.size; simp at this; omega)))
  have hs : SecAt w2 w.heap.size p := fun j u hu => (blow hb2 w.heap.size j (by simp)).trans (SecAt.new w p 53 j u hu)
  obtain ⟨c0, c1, c2, c3, c4, c5, c6, c7, c8, c9, c10, c11, c12⟩ := hs.cells
  have HB2 := Lib.hid (one_drew hb2)
  clear hb2 hs hc2
  go_wp2_with fail
  refine (rident_any p.ak p.ax p.irk _).mono ?_
  rintro e w3 ⟨rfl, hb3⟩
  go_wp2_with fail
  go_ret
  exact ⟨by rw [HV.out]; rfl, bthen HB2.out hb3⟩

set_option maxRecDepth 100000 in
set_option maxHeartbeats 4000000 in
theorem rscheck_5 (p : Sec) (hk : p.kind = 5) (hu : usedS p = p) (w : World) : Calls Tryd.prog 34 #[secV p] w (CheckPost w p) := by
  have HV := Lib.hid (show chkS p = chkR p.rsn by unfold chkS; rw [if_neg (by rw [hk]; decide), if_neg (by simp [hu]), if_neg (by omega), if_neg (by omega), if_pos hk])
  have hn : ∀ w, (binOp .neq 53 (secV p) (secV p)).run Tryd.prog w = .ok (.bool false) w := by
    intro w
    rw [run_neq_sec, decide_eq_false (Decidable.not_not.2 rfl)]
  have C := rused_yes p (by rw [hk]; rfl)
  rw [hu] at C
  have HC := Lib.hid C
  have hl := lenK_ne (show hasK p.kind = true by rw [hk]; rfl)
  have f1 : (p.kind == 1) = false := neq_bool (by omega)
  have f2 : (p.kind == 2) = false := neq_bool (by omega)
  have f8 : (p.kind == 8) = false := neq_bool (by omega)
  have f5 : (p.kind == 5) = true := eqq_bool hk
  clear hu hk C
  by_cases h1 : p.rsn < 1
  · rw [show chkR p.rsn = 5 by unfold chkR; rw [if_pos (.inl h1)]] at HV
    go_enter Tryd.func34, Tryd.ntmps34
    go_wp2_with fail
    refine (length_any p.kind _).mono ?_
    rintro e w1 ⟨rfl, rfl⟩
    generalize lenK p.kind = n at *
    go_wp2_with fail
    go_region_held3 (fun w' => w'.cell? ⟨w.heap.size, 0, none⟩ = some (.int .i64 p.kind) ∧ w'.cell? ⟨w.heap.size, 1, none⟩ = some (.int .i64 p.io) ∧ w'.cell? ⟨w.heap.size, 2, none⟩ = some (.bool p.oob) ∧ w'.cell? ⟨w.heap.size, 3, none⟩ = some (.bool p.bond) ∧ w'.cell? ⟨w.heap.size, 4, none⟩ = some (.bool p.mitm) ∧ w'.cell? ⟨w.heap.size, 5, none⟩ = some (.bool p.send) ∧ w'.cell? ⟨w.heap.size, 6, none⟩ = some (.bool p.take) ∧ w'.cell? ⟨w.heap.size, 7, none⟩ = some (.int .u32 (p.pub : Int)) ∧ w'.cell? ⟨w.heap.size, 8, none⟩ = some (.int .u64 (p.val : Int)) ∧ w'.cell? ⟨w.heap.size, 9, none⟩ = some (.int .i64 p.ak) ∧ w'.cell? ⟨w.heap.size, 10, none⟩ = some (.int .u64 (p.ax : Int)) ∧ w'.cell? ⟨w.heap.size, 11, none⟩ = some (.int .u64 (p.irk : Int)) ∧ w'.cell? ⟨w.heap.size, 12, none⟩ = some (.int .i64 p.rsn)) (go_keep)
      (first | (go_at_call 55; refine (HC.out _).mono ?_; rintro e w2 ⟨rfl, hb2⟩; have hc2 := bfar (w.heap.size + 1) hb2 (by simp); have hz2 : w.heap.size + 1 ≤ w2.heap.size := (by have := hb2.size; simp at this; omega)))
    have hs : SecAt w2 w.heap.size p := fun j u hu => (blow hb2 w.heap.size j (by simp)).trans (SecAt.new w p 53 j u hu)
    obtain ⟨c0, c1, c2, c3, c4, c5, c6, c7, c8, c9, c10, c11, c12⟩ := hs.cells
    have HB2 := Lib.hid (one_drew hb2)
    clear hb2 hs hc2
    go_wp2_with fail
    go_ret
    exact ⟨by rw [HV.out]; rfl, HB2.out⟩
  · have g1 : decide (p.rsn < 1) = false := decide_eq_false h1
    by_cases h2 : 255 < p.rsn
    · rw [show chkR p.rsn = 5 by unfold chkR; rw [if_pos (.inr h2)]] at HV
      go_enter Tryd.func34, Tryd.ntmps34
      go_wp2_with fail
      refine (length_any p.kind _).mono ?_
      rintro e w1 ⟨rfl, rfl⟩
      generalize lenK p.kind = n at *
      go_wp2_with fail
      go_region_held3 (fun w' => w'.cell? ⟨w.heap.size, 0, none⟩ = some (.int .i64 p.kind) ∧ w'.cell? ⟨w.heap.size, 1, none⟩ = some (.int .i64 p.io) ∧ w'.cell? ⟨w.heap.size, 2, none⟩ = some (.bool p.oob) ∧ w'.cell? ⟨w.heap.size, 3, none⟩ = some (.bool p.bond) ∧ w'.cell? ⟨w.heap.size, 4, none⟩ = some (.bool p.mitm) ∧ w'.cell? ⟨w.heap.size, 5, none⟩ = some (.bool p.send) ∧ w'.cell? ⟨w.heap.size, 6, none⟩ = some (.bool p.take) ∧ w'.cell? ⟨w.heap.size, 7, none⟩ = some (.int .u32 (p.pub : Int)) ∧ w'.cell? ⟨w.heap.size, 8, none⟩ = some (.int .u64 (p.val : Int)) ∧ w'.cell? ⟨w.heap.size, 9, none⟩ = some (.int .i64 p.ak) ∧ w'.cell? ⟨w.heap.size, 10, none⟩ = some (.int .u64 (p.ax : Int)) ∧ w'.cell? ⟨w.heap.size, 11, none⟩ = some (.int .u64 (p.irk : Int)) ∧ w'.cell? ⟨w.heap.size, 12, none⟩ = some (.int .i64 p.rsn)) (go_keep)
        (first | (go_at_call 55; refine (HC.out _).mono ?_; rintro e w2 ⟨rfl, hb2⟩; have hc2 := bfar (w.heap.size + 1) hb2 (by simp); have hz2 : w.heap.size + 1 ≤ w2.heap.size := (by have := hb2.size; simp at this; omega)))
      have hs : SecAt w2 w.heap.size p := fun j u hu => (blow hb2 w.heap.size j (by simp)).trans (SecAt.new w p 53 j u hu)
      obtain ⟨c0, c1, c2, c3, c4, c5, c6, c7, c8, c9, c10, c11, c12⟩ := hs.cells
      have HB2 := Lib.hid (one_drew hb2)
      clear hb2 hs hc2
      go_wp2_with fail
      go_ret
      exact ⟨by rw [HV.out]; rfl, HB2.out⟩
    · have g2 : decide (255 < p.rsn) = false := decide_eq_false h2
      rw [show chkR p.rsn = 0 by unfold chkR; rw [if_neg (by omega)]] at HV
      go_enter Tryd.func34, Tryd.ntmps34
      go_wp2_with fail
      refine (length_any p.kind _).mono ?_
      rintro e w1 ⟨rfl, rfl⟩
      generalize lenK p.kind = n at *
      go_wp2_with fail
      go_region_held3 (fun w' => w'.cell? ⟨w.heap.size, 0, none⟩ = some (.int .i64 p.kind) ∧ w'.cell? ⟨w.heap.size, 1, none⟩ = some (.int .i64 p.io) ∧ w'.cell? ⟨w.heap.size, 2, none⟩ = some (.bool p.oob) ∧ w'.cell? ⟨w.heap.size, 3, none⟩ = some (.bool p.bond) ∧ w'.cell? ⟨w.heap.size, 4, none⟩ = some (.bool p.mitm) ∧ w'.cell? ⟨w.heap.size, 5, none⟩ = some (.bool p.send) ∧ w'.cell? ⟨w.heap.size, 6, none⟩ = some (.bool p.take) ∧ w'.cell? ⟨w.heap.size, 7, none⟩ = some (.int .u32 (p.pub : Int)) ∧ w'.cell? ⟨w.heap.size, 8, none⟩ = some (.int .u64 (p.val : Int)) ∧ w'.cell? ⟨w.heap.size, 9, none⟩ = some (.int .i64 p.ak) ∧ w'.cell? ⟨w.heap.size, 10, none⟩ = some (.int .u64 (p.ax : Int)) ∧ w'.cell? ⟨w.heap.size, 11, none⟩ = some (.int .u64 (p.irk : Int)) ∧ w'.cell? ⟨w.heap.size, 12, none⟩ = some (.int .i64 p.rsn)) (go_keep)
        (first | (go_at_call 55; refine (HC.out _).mono ?_; rintro e w2 ⟨rfl, hb2⟩; have hc2 := bfar (w.heap.size + 1) hb2 (by simp); have hz2 : w.heap.size + 1 ≤ w2.heap.size := (by have := hb2.size; simp at this; omega)))
      have hs : SecAt w2 w.heap.size p := fun j u hu => (blow hb2 w.heap.size j (by simp)).trans (SecAt.new w p 53 j u hu)
      obtain ⟨c0, c1, c2, c3, c4, c5, c6, c7, c8, c9, c10, c11, c12⟩ := hs.cells
      have HB2 := Lib.hid (one_drew hb2)
      clear hb2 hs hc2
      go_wp2_with fail
      go_ret
      exact ⟨by rw [HV.out]; rfl, HB2.out⟩

/-- The reference's Check returns the error of a PDU. -/
theorem rscheck_any (p : Sec) (w : World) : Calls Tryd.prog 34 #[secV p] w (CheckPost w p) := by
  by_cases h : hasK p.kind = true
  · by_cases hu : usedS p = p
    · by_cases h1 : p.kind = 1
      · exact rscheck_1 p h1 hu w
      · by_cases h2 : p.kind = 2
        · exact rscheck_2 p h2 hu w
        · by_cases h8 : p.kind = 8
          · exact rscheck_8 p h8 hu w
          · by_cases h5 : p.kind = 5
            · exact rscheck_5 p h5 hu w
            · exact rscheck_plain p h ⟨h1, h2, h8, h5⟩ hu w
    · exact rscheck_used p h hu w
  · exact rscheck_kind p h w
end Go.Proofs.YtpomobeogkfmfaaDoor
