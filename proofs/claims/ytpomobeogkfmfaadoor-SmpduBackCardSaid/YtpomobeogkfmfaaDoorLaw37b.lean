/- The walks of the laws SmpduChecks, SmpduEncodes, SmpduDecodes: for every argument they return true, wherever the tables hold their numbers. -/
import Derived.Test.YtpomobeogkfmfaaDoorLaw37a
import Derived.Deep.RegionHeld3
namespace Go.Proofs.YtpomobeogkfmfaaDoor
open Go.RowKit

set_option maxRecDepth 100000 in
set_option maxHeartbeats 4000000 in
theorem smpduChecks_walk (p : Sec) (w : World) (hT : PTab w) : Calls Tryd.prog 11 #[secV p] w fun e w' => e = .returned (.bool true) ∧ Below w.heap.size w w' := by
  have HT := Lib.hid hT
  have C1 := Lib.hid (show ∀ w, PTab w → Calls Tryd.prog 33 #[secV p] w fun e w' => e = .returned (.int .i64 (chkS p)) ∧ Below w.heap.size w w' from scheck_any p)
  have C2 := Lib.hid (show ∀ w, Calls Tryd.prog 34 #[secV p] w fun e w' => e = .returned (.int .i64 (chkS p)) ∧ Below w.heap.size w w' from rscheck_any p)
  clear hT
  generalize chkS p = cc at *
  go_enter Tryd.func11, Tryd.ntmps11
  go_wp2_with fail
  go_region_held3 (fun w' => w'.cell? ⟨w.heap.size, 0, none⟩ = some (.int .i64 p.kind) ∧ w'.cell? ⟨w.heap.size, 1, none⟩ = some (.int .i64 p.io) ∧ w'.cell? ⟨w.heap.size, 2, none⟩ = some (.bool p.oob) ∧ w'.cell? ⟨w.heap.size, 3, none⟩ = some (.bool p.bond) ∧ w'.cell? ⟨w.heap.size, 4, none⟩ = some (.bool p.mitm) ∧ w'.cell? ⟨w.heap.size, 5, none⟩ = some (.bool p.send) ∧ w'.cell? ⟨w.heap.size, 6, none⟩ = some (.bool p.take) ∧ w'.cell? ⟨w.heap.size, 7, none⟩ = some (.int .u32 (p.pub : Int)) ∧ w'.cell? ⟨w.heap.size, 8, none⟩ = some (.int .u64 (p.val : Int)) ∧ w'.cell? ⟨w.heap.size, 9, none⟩ = some (.int .i64 p.ak) ∧ w'.cell? ⟨w.heap.size, 10, none⟩ = some (.int .u64 (p.ax : Int)) ∧ w'.cell? ⟨w.heap.size, 11, none⟩ = some (.int .u64 (p.irk : Int)) ∧ w'.cell? ⟨w.heap.size, 12, none⟩ = some (.int .i64 p.rsn)) (go_keep)
    (first
      | (go_at_call 32; refine (lives37 _ ?_).mono ?_; exact (HT.out.keep ((al1 w _).drew)); rintro e w1 ⟨rfl, hb1⟩; have hc1 := bfar (w.heap.size + 1) hb1 (by simp); have hz1 : w.heap.size + 1 ≤ w1.heap.size := (by have := hb1.size; simp at this; omega))
      | (go_at_call 33; refine (C1.out _ ?_).mono ?_; exact (HT.out.keep (((al1 w _).drew).trans (hb1.mono (by simp)))); rintro e w2 ⟨rfl, hb2⟩; have hc2 := bfar (w.heap.size + 1) hb2 hz1; have hz2 : w.heap.size + 1 ≤ w2.heap.size := (by have := hb2.size; omega))
      | (go_at_call 34; refine (C2.out _).mono ?_; rintro e w3 ⟨rfl, hb3⟩; have hc3 := bfar (w.heap.size + 1) hb3 hz2))
  go_wp2
  go_ret
  exact ⟨by simp, bthen (bthen (((al1 w _).drew).trans (hb1.mono (by simp))) hb2) hb3⟩

set_option maxRecDepth 100000 in
set_option maxHeartbeats 4000000 in
theorem smpduEncodes_walk (p : Sec) (hr : SecOk p) (w : World) (hT : PTab w) : Calls Tryd.prog 12 #[secV p] w fun e w' => e = .returned (.bool true) ∧ Below w.heap.size w w' := by
  have HT := Lib.hid hT
  have C1 := Lib.hid (show ∀ w, PTab w → Calls Tryd.prog 35 #[secV p] w fun e w' => Below w.heap.size w w' ∧ ∃ v, e = .returned (.tuple #[v, .int .i64 (chkS p)]) ∧ BS w' w'.heap.size v (if chkS p = 0 then encS p else []) from
    fun w hT => (sencode_any p hr w hT).mono fun e w' hh => hh.bytes)
  have C2 := Lib.hid (show ∀ w, Calls Tryd.prog 36 #[secV p] w fun e w' => Below w.heap.size w w' ∧ ∃ v, e = .returned (.tuple #[v, .int .i64 (chkS p)]) ∧ BS w' w'.heap.size v (if chkS p = 0 then encS p else []) from
    fun w => (rsencode_any p hr w).mono fun e w' hh => hh.bytes)
  clear hT hr
  generalize (if chkS p = 0 then encS p else []) = ys at *
  generalize chkS p = cc at *
  go_enter Tryd.func12, Tryd.ntmps12
  go_wp2_with fail
  refine (C1.out _ (HT.out.keep (al1 w _))).mono ?_
  rintro e w1 ⟨hb1, u, rfl, hu⟩
  have hs := (SecAt.new w p 53).keep hb1 (by simp)
  have hz1 := sz1 hb1
  obtain ⟨c0, c1, c2, c3, c4, c5, c6, c7, c8, c9, c10, c11, c12⟩ := hs.cells
  have HB1 := Lib.hid (one hb1)
  have HU := Lib.hid hu
  clear hb1 hu hs
  go_wp2_with fail
  refine (C2.out _).mono ?_
  rintro e w2 ⟨hb2, u', rfl, hu'⟩
  have HB2 := Lib.hid (bthen HB1.out hb2)
  have HU2 := Lib.hid (HU.out.on hb2)
  have HU' := Lib.hid hu'
  clear hb2 hu' c0 c1 c2 c3 c4 c5 c6 c7 c8 c9 c10 c11 c12
  go_wp2_with fail
  refine (lives37 _ (HT.out.keep HB2.out)).mono ?_
  rintro e w3 ⟨rfl, hb3⟩
  have HB3 := Lib.hid (bthen HB2.out hb3)
  have HU3 := Lib.hid (HU2.out.on hb3)
  have HU'3 := Lib.hid (HU'.out.on hb3)
  clear hb3
  go_wp2_with fail
  refine (same_any u u' _ _ _ HU3.out HU'3.out).mono ?_
  rintro e w4 ⟨rfl, rfl⟩
  go_wp2
  go_ret
  exact ⟨by simp, HB3.out⟩

set_option maxRecDepth 100000 in
set_option maxHeartbeats 4000000 in
theorem smpduDecodes_walk (l : List UInt8) (v : Value) (w : World) (hb : BS w w.heap.size v l) (hT : PTab w) : Calls Tryd.prog 13 #[v] w fun e w' => e = .returned (.bool true) ∧ Below w.heap.size w w' := by
  have HT := Lib.hid hT
  have HBS := Lib.hid hb
  by_cases hl : 100 < l.length
  · obtain ⟨A, c, rfl, _⟩ := id hb
    clear hb hT
    go_enter Tryd.func13, Tryd.ntmps13
    go_wp2_with fail
    refine (lives37 _ HT.out).mono ?_
    rintro e w1 ⟨rfl, hb1⟩
    go_wp2
    go_ret
    exact ⟨rfl, hb1⟩
  · have C1 := Lib.hid (show ∀ W, Below w.heap.size w W → Calls Tryd.prog 37 #[v] W fun e w' => e = .returned (.tuple #[secV (decS l), .int .i64 (decSE l)]) ∧ Below W.heap.size W w' from
      fun W hW => sdecode_any l v (by omega) W (HBS.out.on hW) (HT.out.keep hW))
    have C2 := Lib.hid (show ∀ W, Below w.heap.size w W → Calls Tryd.prog 38 #[v] W fun e w' => e = .returned (.tuple #[secV (decS l), .int .i64 (decSE l)]) ∧ Below W.heap.size W w' from
      fun W hW => rsdecode_any l v (by omega) W (HBS.out.on hW))
    obtain ⟨A, c, rfl, _⟩ := id hb
    clear hb hT HBS
    generalize decS l = q at *
    generalize decSE l = cc at *
    generalize l.length = n at *
    have hq : ∀ w, (binOp .eql 53 (secV q) (secV q)).run Tryd.prog w = .ok (.bool true) w := by
      intro w
      rw [run_eql_sec, decide_eq_true rfl]
    go_enter Tryd.func13, Tryd.ntmps13
    go_wp2_with fail
    refine (C1.out _ (Below.refl _ _)).mono ?_
    rintro e w1 ⟨rfl, hb1⟩
    have HB1 := Lib.hid hb1
    clear hb1
    go_wp2_with fail
    refine (C2.out _ (HB1.out.alloc HB1.out.size _)).mono ?_
    rintro e w2 ⟨rfl, hb2⟩
    have HS := Lib.hid ((SecAt.new w1 q 53).keep hb2 (by simp))
    have HB2 := Lib.hid (bthen HB1.out (one hb2))
    have hz2 := sz1 hb2
    clear hb2
    go_wp2_with fail
    refine (lives37 _ (HT.out.keep (HB2.out.alloc HB2.out.size _))).mono ?_
    rintro e w3 ⟨rfl, hb3⟩
    have hs1 := (HS.out.keep (al1 w2 (.cells (secV q).cells 53)) hz2).keep hb3 (by simp; omega)
    have hs2 := (SecAt.new w2 q 53).keep hb3 (by simp)
    have hz3 := sec_lt hs1
    have hz4 := sec_lt hs2
    obtain ⟨c0, c1, c2, c3, c4, c5, c6, c7, c8, c9, c10, c11, c12⟩ := hs1.cells
    obtain ⟨d0, d1, d2, d3, d4, d5, d6, d7, d8, d9, d10, d11, d12⟩ := hs2.cells
    have HB3 := Lib.hid (bthen HB2.out (one hb3))
    clear hb3 hs1 hs2
    go_wp2
    go_ret
    exact ⟨by simp, HB3.out⟩
end Go.Proofs.YtpomobeogkfmfaaDoor
