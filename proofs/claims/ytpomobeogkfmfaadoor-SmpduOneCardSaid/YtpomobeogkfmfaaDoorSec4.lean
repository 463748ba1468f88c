/- Walks of package smpdu: Check. -/
import Derived.Test.YtpomobeogkfmfaaDoorSec2
namespace Go.Proofs.YtpomobeogkfmfaaDoor
open Go.RowKit

/-- The error of an identity, of a PDU. -/
def chkI (k : Int) (x : Nat) : Int := if chkA k x ≠ 0 then chkA k x else if k ≠ 1 ∧ k ≠ 2 then 1 else 0
def chkR (r : Int) : Int := if r < 1 ∨ 255 < r then 5 else 0
def chkS (p : Sec) : Int :=
  if hasK p.kind = false then 12 else if usedS p ≠ p then 1 else if p.kind = 1 ∨ p.kind = 2 then chkF p.io else if p.kind = 8 then chkI p.ak p.ax else if p.kind = 5 then chkR p.rsn else 0

/-- What Check leaves. -/
def CheckPost (w : World) (p : Sec) (e : Ending) (w' : World) : Prop := e = .returned (.int .i64 (chkS p)) ∧ Below w.heap.size w w'

/-- The cells of a PDU in a block of its own. -/
def SecAt (w : World) (b : Nat) (p : Sec) : Prop := ∀ j u, (secV p).cells.toList[j]? = some u → w.cell? ⟨b, j, none⟩ = some u
theorem SecAt.cells {w : World} {b : Nat} {p : Sec} (h : SecAt w b p) :
    w.cell? ⟨b, 0, none⟩ = some (.int .i64 p.kind) ∧ w.cell? ⟨b, 1, none⟩ = some (.int .i64 p.io) ∧ w.cell? ⟨b, 2, none⟩ = some (.bool p.oob) ∧ w.cell? ⟨b, 3, none⟩ = some (.bool p.bond) ∧ w.cell? ⟨b, 4, none⟩ = some (.bool p.mitm) ∧
      w.cell? ⟨b, 5, none⟩ = some (.bool p.send) ∧ w.cell? ⟨b, 6, none⟩ = some (.bool p.take) ∧ w.cell? ⟨b, 7, none⟩ = some (.int .u32 (p.pub : Int)) ∧ w.cell? ⟨b, 8, none⟩ = some (.int .u64 (p.val : Int)) ∧ w.cell? ⟨b, 9, none⟩ = some (.int .i64 p.ak) ∧
      w.cell? ⟨b, 10, none⟩ = some (.int .u64 (p.ax : Int)) ∧ w.cell? ⟨b, 11, none⟩ = some (.int .u64 (p.irk : Int)) ∧ w.cell? ⟨b, 12, none⟩ = some (.int .i64 p.rsn) :=
  ⟨h 0 _ rfl, h 1 _ rfl, h 2 _ rfl, h 3 _ rfl, h 4 _ rfl, h 5 _ rfl, h 6 _ rfl, h 7 _ rfl, h 8 _ rfl, h 9 _ rfl, h 10 _ rfl, h 11 _ rfl, h 12 _ rfl⟩
theorem SecAt.new (w : World) (p : Sec) (t : TypeId) : SecAt (w.alloc (.cells (secV p).cells t)) w.heap.size p := by
  intro j u hu
  rw [cell_of_row _ _ _ _ t (0, 0) (heap_alloc_new w _)]
  rw [Array.getElem?_toList] at hu
  exact hu
theorem SecAt.keep {w w' : World} {b B : Nat} {p : Sec} (h : SecAt w b p) (hb : Below B w w') (hB : b < B) : SecAt w' b p :=
  fun j u hu => (hb.cell (p := ⟨b, j, none⟩) hB).trans (h j u hu)

set_option maxRecDepth 100000 in
set_option maxHeartbeats 4000000 in
theorem scheck_kind (p : Sec) (h : ¬ hasK p.kind = true) (w : World) : Calls Tryd.prog 33 #[secV p] w (CheckPost w p) := by
  have HV := Lib.hid (show chkS p = 12 by unfold chkS; rw [if_pos (by simpa using h)])
  have HH := Lib.hid h
  clear h
  go_enter Tryd.func33, Tryd.ntmps33
  go_wp2_with fail
  refine (used_no p HH.out _).mono ?_
  rintro e w1 ⟨rfl, hb1⟩
  have HB1 := Lib.hid (one hb1)
  clear hb1
  go_wp2_with fail
  go_ret
  exact ⟨by rw [HV.out]; rfl, HB1.out.alloc HB1.out.size _⟩

set_option maxRecDepth 100000 in
set_option maxHeartbeats 4000000 in
theorem scheck_used (p : Sec) (h : hasK p.kind = true) (hu : usedS p ≠ p) (w : World) : Calls Tryd.prog 33 #[secV p] w (CheckPost w p) := by
  have HV := Lib.hid (show chkS p = 1 by unfold chkS; rw [if_neg (by simp [h]), if_pos hu])
  have hn : ∀ w, (binOp .neq 53 (secV (usedS p)) (secV p)).run Tryd.prog w = .ok (.bool true) w := by
    intro w
    rw [run_neq_sec, decide_eq_true hu]
  have C := Lib.hid (used_yes p h)
  clear h hu
  generalize usedS p = u at *
  go_enter Tryd.func33, Tryd.ntmps33
  go_wp2_with fail
  refine (C.out _).mono ?_
  rintro e w1 ⟨rfl, hb1⟩
  have hs := (SecAt.new w p 53).keep hb1 (by simp)
  have hz1 := sz1 hb1
  obtain ⟨c0, c1, c2, c3, c4, c5, c6, c7, c8, c9, c10, c11, c12⟩ := hs.cells
  have HB1 := Lib.hid (one hb1)
  clear hb1 hs
  go_wp2_with fail
  go_ret
  exact ⟨by rw [HV.out]; rfl, HB1.out.alloc HB1.out.size _⟩

set_option maxRecDepth 100000 in
set_option maxHeartbeats 4000000 in
theorem scheck_1 (p : Sec) (hk : p.kind = 1) (hu : usedS p = p) (w : World) : Calls Tryd.prog 33 #[secV p] w (CheckPost w p) := by
  have HV := Lib.hid (show chkS p = chkF p.io by unfold chkS; rw [if_neg (by rw [hk]; decide), if_neg (by simp [hu]), if_pos (by omega)])
  have hn : ∀ w, (binOp .neq 53 (secV p) (secV p)).run Tryd.prog w = .ok (.bool false) w := by
    intro w
    rw [run_neq_sec, decide_eq_false (not_not_intro rfl)]
  have C := used_yes p (by rw [hk]; rfl)
  rw [hu] at C
  have HC := Lib.hid C
  have f1 : (p.kind == 1) = true := eqq_bool hk
  have f2 : (p.kind == 2) = false := neq_bool (by omega)
  have f8 : (p.kind == 8) = false := neq_bool (by omega)
  have f5 : (p.kind == 5) = false := neq_bool (by omega)
  clear hu hk C
  go_enter Tryd.func33, Tryd.ntmps33
  go_wp2_with fail
  refine (HC.out _).mono ?_
  rintro e w1 ⟨rfl, hb1⟩
  have hs := (SecAt.new w p 53).keep hb1 (by simp)
  have hz1 := sz1 hb1
  obtain ⟨c0, c1, c2, c3, c4, c5, c6, c7, c8, c9, c10, c11, c12⟩ := hs.cells
  have HB1 := Lib.hid (one hb1)
  clear hb1 hs
  go_wp2_with fail
  refine (mcheck_any p.io p.oob p.bond p.mitm p.send p.take _).mono ?_
  rintro e w2 ⟨rfl, hb2⟩
  go_wp2_with fail
  go_ret
  exact ⟨by rw [HV.out]; rfl, bthen HB1.out (one hb2)⟩

set_option maxRecDepth 100000 in
set_option maxHeartbeats 4000000 in
theorem scheck_2 (p : Sec) (hk : p.kind = 2) (hu : usedS p = p) (w : World) : Calls Tryd.prog 33 #[secV p] w (CheckPost w p) := by
  have HV := Lib.hid (show chkS p = chkF p.io by unfold chkS; rw [if_neg (by rw [hk]; decide), if_neg (by simp [hu]), if_pos (by omega)])
  have hn : ∀ w, (binOp .neq 53 (secV p) (secV p)).run Tryd.prog w = .ok (.bool false) w := by
    intro w
    rw [run_neq_sec, decide_eq_false (not_not_intro rfl)]
  have C := used_yes p (by rw [hk]; rfl)
  rw [hu] at C
  have HC := Lib.hid C
  have f1 : (p.kind == 1) = false := neq_bool (by omega)
  have f2 : (p.kind == 2) = true := eqq_bool hk
  have f8 : (p.kind == 8) = false := neq_bool (by omega)
  have f5 : (p.kind == 5) = false := neq_bool (by omega)
  clear hu hk C
  go_enter Tryd.func33, Tryd.ntmps33
  go_wp2_with fail
  refine (HC.out _).mono ?_
  rintro e w1 ⟨rfl, hb1⟩
  have hs := (SecAt.new w p 53).keep hb1 (by simp)
  have hz1 := sz1 hb1
  obtain ⟨c0, c1, c2, c3, c4, c5, c6, c7, c8, c9, c10, c11, c12⟩ := hs.cells
  have HB1 := Lib.hid (one hb1)
  clear hb1 hs
  go_wp2_with fail
  refine (mcheck_any p.io p.oob p.bond p.mitm p.send p.take _).mono ?_
  rintro e w2 ⟨rfl, hb2⟩
  go_wp2_with fail
  go_ret
  exact ⟨by rw [HV.out]; rfl, bthen HB1.out (one hb2)⟩

set_option maxRecDepth 100000 in
set_option maxHeartbeats 4000000 in
theorem scheck_plain (p : Sec) (hh : hasK p.kind = true) (hk : p.kind ≠ 1 ∧ p.kind ≠ 2 ∧ p.kind ≠ 8 ∧ p.kind ≠ 5) (hu : usedS p = p) (w : World) : Calls Tryd.prog 33 #[secV p] w (CheckPost w p) := by
  have HV := Lib.hid (show chkS p = 0 by unfold chkS; rw [if_neg (by simp [hh]), if_neg (by simp [hu]), if_neg (by omega), if_neg (by omega), if_neg (by omega)])
  have hn : ∀ w, (binOp .neq 53 (secV p) (secV p)).run Tryd.prog w = .ok (.bool false) w := by
    intro w
    rw [run_neq_sec, decide_eq_false (not_not_intro rfl)]
  have C := used_yes p hh
  rw [hu] at C
  have HC := Lib.hid C
  have f1 : (p.kind == 1) = false := neq_bool hk.1
  have f2 : (p.kind == 2) = false := neq_bool hk.2.1
  have f8 : (p.kind == 8) = false := neq_bool hk.2.2.1
  have f5 : (p.kind == 5) = false := neq_bool hk.2.2.2
  clear hu hk hh C
  go_enter Tryd.func33, Tryd.ntmps33
  go_wp2_with fail
  refine (HC.out _).mono ?_
  rintro e w1 ⟨rfl, hb1⟩
  have hs := (SecAt.new w p 53).keep hb1 (by simp)
  have hz1 := sz1 hb1
  obtain ⟨c0, c1, c2, c3, c4, c5, c6, c7, c8, c9, c10, c11, c12⟩ := hs.cells
  have HB1 := Lib.hid (one hb1)
  clear hb1 hs
  go_wp2_with fail
  go_ret
  exact ⟨by rw [HV.out]; rfl, HB1.out.alloc HB1.out.size _⟩

set_option maxRecDepth 100000 in
set_option maxHeartbeats 4000000 in
theorem scheck_5 (p : Sec) (hk : p.kind = 5) (hu : usedS p = p) (w : World) : Calls Tryd.prog 33 #[secV p] w (CheckPost w p) := by
  have HV := Lib.hid (show chkS p = chkR p.rsn by unfold chkS; rw [if_neg (by rw [hk]; decide), if_neg (by simp [hu]), if_neg (by omega), if_neg (by omega), if_pos hk])
  have hn : ∀ w, (binOp .neq 53 (secV p) (secV p)).run Tryd.prog w = .ok (.bool false) w := by
    intro w
    rw [run_neq_sec, decide_eq_false (not_not_intro rfl)]
  have C := used_yes p (by rw [hk]; rfl)
  rw [hu] at C
  have HC := Lib.hid C
  have f1 : (p.kind == 1) = false := neq_bool (by omega)
  have f2 : (p.kind == 2) = false := neq_bool (by omega)
  have f8 : (p.kind == 8) = false := neq_bool (by omega)
  have f5 : (p.kind == 5) = true := eqq_bool hk
  clear hu hk C
  by_cases h1 : p.rsn < 1
  · rw [show chkR p.rsn = 5 by unfold chkR; rw [if_pos (.inl h1)]] at HV
    go_enter Tryd.func33, Tryd.ntmps33
    go_wp2_with fail
    refine (HC.out _).mono ?_
    rintro e w1 ⟨rfl, hb1⟩
    have hs := (SecAt.new w p 53).keep hb1 (by simp)
    have hz1 := sz1 hb1
    obtain ⟨c0, c1, c2, c3, c4, c5, c6, c7, c8, c9, c10, c11, c12⟩ := hs.cells
    have HB1 := Lib.hid (one hb1)
    clear hb1 hs
    go_wp2_with fail
    go_ret
    exact ⟨by rw [HV.out]; rfl, HB1.out.alloc HB1.out.size _⟩
  · by_cases h2 : 255 < p.rsn
    · rw [show chkR p.rsn = 5 by unfold chkR; rw [if_pos (.inr h2)]] at HV
      go_enter Tryd.func33, Tryd.ntmps33
      go_wp2_with fail
      refine (HC.out _).mono ?_
      rintro e w1 ⟨rfl, hb1⟩
      have hs := (SecAt.new w p 53).keep hb1 (by simp)
      have hz1 := sz1 hb1
      obtain ⟨c0, c1, c2, c3, c4, c5, c6, c7, c8, c9, c10, c11, c12⟩ := hs.cells
      have HB1 := Lib.hid (one hb1)
      clear hb1 hs
      go_wp2_with fail
      go_ret
      exact ⟨by rw [HV.out]; rfl, HB1.out.alloc HB1.out.size _⟩
    · rw [show chkR p.rsn = 0 by unfold chkR; rw [if_neg (by omega)]] at HV
      go_enter Tryd.func33, Tryd.ntmps33
      go_wp2_with fail
      refine (HC.out _).mono ?_
      rintro e w1 ⟨rfl, hb1⟩
      have hs := (SecAt.new w p 53).keep hb1 (by simp)
      have hz1 := sz1 hb1
      obtain ⟨c0, c1, c2, c3, c4, c5, c6, c7, c8, c9, c10, c11, c12⟩ := hs.cells
      have HB1 := Lib.hid (one hb1)
      clear hb1 hs
      go_wp2_with fail
      go_ret
      exact ⟨by rw [HV.out]; rfl, HB1.out.alloc HB1.out.size _⟩

set_option maxRecDepth 100000 in
set_option maxHeartbeats 4000000 in
theorem scheck_8 (p : Sec) (hk : p.kind = 8) (hu : usedS p = p) (w : World) (hT : PTab w) : Calls Tryd.prog 33 #[secV p] w (CheckPost w p) := by
  have HV := Lib.hid (show chkS p = chkI p.ak p.ax by unfold chkS; rw [if_neg (by rw [hk]; decide), if_neg (by simp [hu]), if_neg (by omega), if_pos hk])
  have hn : ∀ w, (binOp .neq 53 (secV p) (secV p)).run Tryd.prog w = .ok (.bool false) w := by
    intro w
    rw [run_neq_sec, decide_eq_false (not_not_intro rfl)]
  have C := used_yes p (by rw [hk]; rfl)
  rw [hu] at C
  have HC := Lib.hid C
  have HT := Lib.hid hT
  have f1 : (p.kind == 1) = false := neq_bool (by omega)
  have f2 : (p.kind == 2) = false := neq_bool (by omega)
  have f8 : (p.kind == 8) = true := eqq_bool hk
  have f5 : (p.kind == 5) = false := neq_bool (by omega)
  clear hu hk C hT
  go_enter Tryd.func33, Tryd.ntmps33
  go_wp2_with fail
  refine (HC.out _).mono ?_
  rintro e w1 ⟨rfl, hb1⟩
  have hs := (SecAt.new w p 53).keep hb1 (by simp)
  have hz1 := sz1 hb1
  obtain ⟨c0, c1, c2, c3, c4, c5, c6, c7, c8, c9, c10, c11, c12⟩ := hs.cells
  have HS := Lib.hid hs
  have HB1 := Lib.hid (one hb1)
  clear hb1 hs
  go_wp2_with fail
  refine (check_anyP p.ak p.ax _ (HT.out.keep (HB1.out.alloc HB1.out.size _))).mono ?_
  rintro e w2 ⟨rfl, hb2⟩
  clear c0 c1 c2 c3 c4 c5 c6 c7 c8 c9 c10 c11 c12
  have hs2 := (HS.out.keep (al1 w1 (.cells (secV p).cells 53)) hz1).keep hb2 (by simp; omega)
  obtain ⟨c0, c1, c2, c3, c4, c5, c6, c7, c8, c9, c10, c11, c12⟩ := hs2.cells
  have hz2 := sz1 hb2
  have hz3 : w.heap.size < w2.heap.size := by omega
  have HB2 := Lib.hid (bthen HB1.out (one hb2))
  clear hb2 hs2
  by_cases hc : chkA p.ak p.ax = 0
  · rw [hc]
    by_cases h1 : p.ak = 1
    · have HV0 := Lib.hid (HV.out.trans (show chkI p.ak p.ax = 0 by unfold chkI; rw [if_neg (by simp [hc]), if_neg (by omega)]))
      have g1 : (p.ak != 1) = false := eq_bool h1
      clear hc
      go_wp2_with fail
      go_ret
      exact ⟨by rw [HV0.out]; rfl, HB2.out⟩
    · have g1 : (p.ak != 1) = true := ne_bool h1
      by_cases h2 : p.ak = 2
      · have HV0 := Lib.hid (HV.out.trans (show chkI p.ak p.ax = 0 by unfold chkI; rw [if_neg (by simp [hc]), if_neg (by omega)]))
        have g2 : (p.ak != 2) = false := eq_bool h2
        clear hc
        go_wp2_with fail
        go_ret
        exact ⟨by rw [HV0.out]; rfl, HB2.out⟩
      · have HV0 := Lib.hid (HV.out.trans (show chkI p.ak p.ax = 1 by unfold chkI; rw [if_neg (by simp [hc]), if_pos (by omega)]))
        have g2 : (p.ak != 2) = true := ne_bool h2
        clear hc
        go_wp2_with fail
        go_ret
        exact ⟨by rw [HV0.out]; rfl, HB2.out⟩
  · have hc' := ne_bool hc
    have HV0 := Lib.hid (HV.out.trans (show chkI p.ak p.ax = chkA p.ak p.ax by unfold chkI; rw [if_pos hc]))
    clear hc
    generalize hcd : chkA p.ak p.ax = cc at *
    clear hcd
    go_wp2_with fail
    go_ret
    exact ⟨by rw [HV0.out]; rfl, HB2.out⟩

/-- smpdu.Check returns the error of a PDU. -/
theorem scheck_any (p : Sec) (w : World) (hT : PTab w) : Calls Tryd.prog 33 #[secV p] w (CheckPost w p) := by
  by_cases h : hasK p.kind = true
  · by_cases hu : usedS p = p
    · by_cases h1 : p.kind = 1
      · exact scheck_1 p h1 hu w
      · by_cases h2 : p.kind = 2
        · exact scheck_2 p h2 hu w
        · by_cases h8 : p.kind = 8
          · exact scheck_8 p h8 hu w hT
          · by_cases h5 : p.kind = 5
            · exact scheck_5 p h5 hu w
            · exact scheck_plain p h ⟨h1, h2, h8, h5⟩ hu w
    · exact scheck_used p h hu w
  · exact scheck_kind p h w
end Go.Proofs.YtpomobeogkfmfaaDoor
