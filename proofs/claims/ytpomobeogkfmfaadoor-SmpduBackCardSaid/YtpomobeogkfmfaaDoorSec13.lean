/- Walks of the reference of package smpdu: Decode at each kind. -/
import Derived.Test.YtpomobeogkfmfaaDoorSec10b
import Derived.Test.YtpomobeogkfmfaaDoorSec12
import Derived.Deep.RegionHeld3
namespace Go.Proofs.YtpomobeogkfmfaaDoor
open Go.RowKit

theorem alloc2_size (w : World) (o1 o2 : Obj) : ((w.alloc o1).alloc o2).heap.size = w.heap.size + 2 := by simp
/-- Two boxes that have just been laid. -/
theorem boxes2 (w : World) (p q : Sec) (t : TypeId) : SecAt ((w.alloc (.cells (secV p).cells t)).alloc (.cells (secV q).cells t)) w.heap.size p ∧ Froz ((w.alloc (.cells (secV p).cells t)).alloc (.cells (secV q).cells t)) w.heap.size ∧
    SecAt ((w.alloc (.cells (secV p).cells t)).alloc (.cells (secV q).cells t)) (w.heap.size + 1) q ∧ Froz ((w.alloc (.cells (secV p).cells t)).alloc (.cells (secV q).cells t)) (w.heap.size + 1) := by
  refine ⟨(SecAt.new w p t).keep (al1 _ _) (by simp), (Froz.new w _ t).keep (al1 _ _) (by simp), ?_, ?_⟩
  · have h := SecAt.new (w.alloc (.cells (secV p).cells t)) q t
    rwa [show (w.alloc (.cells (secV p).cells t)).heap.size = w.heap.size + 1 by simp] at h
  · have h := Froz.new (w.alloc (.cells (secV p).cells t)) (secV q).cells t
    rwa [show (w.alloc (.cells (secV p).cells t)).heap.size = w.heap.size + 1 by simp] at h

set_option maxRecDepth 100000 in
set_option maxHeartbeats 4000000 in
theorem rsdecode_3 (a : UInt8) (r : List UInt8) (v : Value) (ha : a.toNat = 3) (hr : r.length = 8) (w : World) (hb : BS w w.heap.size v (a :: r)) : Calls Tryd.prog 38 #[v] w (SDecPost w (a :: r)) := by
  have ha' : (nB (a :: r) 0 : Int) = 3 := by show (a.toNat : Int) = 3; omega
  have hE : decSE (a :: r) = if badF 3 r = true then 2 else chkS (decP 3 r) := by
    unfold decSE
    rw [if_neg (by simp), ha', if_neg (by decide), if_neg (by rw [List.length_cons, hr]; decide), if_neg (by rw [List.length_cons, hr]; decide)]
    rfl
  have HE := Lib.hid hE
  have HD := Lib.hid (show decS (a :: r) = if decSE (a :: r) = 0 then decP 3 r else sec0 by unfold decS; rw [ha']; rfl)
  obtain ⟨b, o, c, rfl, hB, hn, hcm, _⟩ := hb.at_ (bys_at (k := 0) (by simp))
  obtain ⟨_, _, _, _, hcell⟩ := bs_cells hb (by simp)
  have hlen : (a :: r).length = 9 := by rw [List.length_cons, hr]
  have d0 : w.cell? ⟨b, o, none⟩ = some (.int .u8 3) := by
    have := hcell 0 (by simp)
    rw [ha'] at this
    exact this
  have hcut := hb.cut (k := 1) (by simp)
  have VC := Lib.hid (show ∀ W, Below w.heap.size w W → Calls Tryd.prog 51 #[.slice (some ⟨b, o + 1, none⟩) 8 (c - 1)] W fun e w' => e = .returned (.int .u64 ((leVal r : Nat) : Int)) ∧ W = w' by
    intro W hW
    have h := value_any r (some ⟨b, o + 1, none⟩) (c - 1) W w.heap.size (by
      have h1 := hcut.below hW
      rw [if_neg (by omega), hlen] at h1
      rw [hr]
      exact h1) (by omega)
    rwa [hr] at h)
  have hx := leVal_bound r 8 (by omega)
  have HE := Lib.hid (show decSE (a :: r) = chkS (decP 3 r) from HE.out.trans (if_neg (by show ¬ false = true; decide)))
  have hq : decP 3 r = ⟨3, 0, false, false, false, false, false, 0, leVal r, 0, 0, 0, 0⟩ := rfl
  rw [hq] at HE HD
  clear hq hcut
  generalize leVal r = x at *
  have HQ := Lib.hid (rscheck_any ⟨3, 0, false, false, false, false, false, 0, x, 0, 0, 0, 0⟩)
  rw [hlen] at hn ⊢
  unfold maxLen at hcm
  have hB1 : b < w.heap.size + 1 := by omega
  have hB2 : b < w.heap.size + 1 + 1 := by omega
  have hB3 : b ≠ w.heap.size := by omega
  have hB4 : b ≠ w.heap.size + 1 := by omega
  have hc9 : (9 : Int) ≤ (c : Int) := by omega
  have hc1 : ¬ c = 1 := by omega
  clear ha ha' hE hb hcell hlen hr
  go_enter Tryd.func38, Tryd.ntmps38
  go_wp2_with fail
  refine (length_any 3 _).mono ?_
  rintro e w1 ⟨rfl, rfl⟩
  rw [show lenK 3 = 9 from rfl]
  go_wp2_with fail
  refine (VC.out _ (al2 w _ _)).mono ?_
  rintro e w2 ⟨rfl, rfl⟩
  go_wp2_with fail
  refine (HQ.out _).mono ?_
  rintro e w7 ⟨rfl, hb7⟩
  obtain ⟨b0, b1, b2, b3⟩ := boxes2 w sec0 ⟨3, 0, false, false, false, false, false, 0, x, 0, 0, 0, 0⟩ 53
  have hs70 := b0.keep hb7 (by simp; omega)
  have hf70 := b1.keep hb7 (by simp; omega)
  have hs71 := b2.keep hb7 (by simp)
  have hbb7 := two hb7
  clear hb7 b0 b1 b2 b3 VC HQ d0
  have HS7 := Lib.hid hs70
  have HF7 := Lib.hid hf70
  have HB7 := Lib.hid hbb7
  have hz7 := sec_lt hs71
  have hz0 := sec_lt hs70
  by_cases hc : chkS ⟨3, 0, false, false, false, false, false, 0, x, 0, 0, 0, 0⟩ = 0
  · rw [hc]
    have HC := Lib.hid hc
    clear hc hs70 hf70 hbb7
    obtain ⟨p0, p1, p2, p3, p4, p5, p6, p7, p8, p9, p10, p11, p12⟩ := hs71.cells
    obtain ⟨c0, c1, c2, c3, c4, c5, c6, c7, c8, c9, c10, c11, c12⟩ := HS7.out.cells
    obtain ⟨f0, f1, f2, f3, f4, f5, f6, f7, f8, f9, f10, f11, f12⟩ := HF7.out.all
    clear hs71
    go_wp2_with fail
    refine bodyPost_ret (res_sec rfl _ _ w.heap.size ⟨3, 0, false, false, false, false, false, 0, x, 0, 0, 0, 0⟩ rfl ?_) rfl ⟨?_, ?_⟩
    · exact sec_put ⟨3, 0, false, false, false, false, false, 0, x, 0, 0, 0, 0⟩ HS7.out
    · rw [HD.out, HE.out, HC.out, if_pos rfl]; rfl
    · exact below_put ⟨3, 0, false, false, false, false, false, 0, x, 0, 0, 0, 0⟩ HB7.out (Nat.le_refl _)
  · have hc' := ne_bool hc
    have HC := Lib.hid hc
    clear hc hs70 hf70 hbb7 hs71
    generalize hcd : chkS ⟨3, 0, false, false, false, false, false, 0, x, 0, 0, 0, 0⟩ = cc at *
    have HCD := Lib.hid hcd
    clear hcd
    obtain ⟨c0, c1, c2, c3, c4, c5, c6, c7, c8, c9, c10, c11, c12⟩ := HS7.out.cells
    obtain ⟨f0, f1, f2, f3, f4, f5, f6, f7, f8, f9, f10, f11, f12⟩ := HF7.out.all
    go_wp2_with fail
    refine bodyPost_ret (res_sec rfl _ _ w.heap.size sec0 rfl ?_) rfl ⟨?_, ?_⟩
    · exact sec_put sec0 HS7.out
    · rw [HD.out, HE.out, if_neg HC.out]; rfl
    · exact below_put sec0 HB7.out (Nat.le_refl _)

set_option maxRecDepth 100000 in
set_option maxHeartbeats 4000000 in
theorem rsdecode_4 (a : UInt8) (r : List UInt8) (v : Value) (ha : a.toNat = 4) (hr : r.length = 8) (w : World) (hb : BS w w.heap.size v (a :: r)) : Calls Tryd.prog 38 #[v] w (SDecPost w (a :: r)) := by
  have ha' : (nB (a :: r) 0 : Int) = 4 := by show (a.toNat : Int) = 4; omega
  have hE : decSE (a :: r) = if badF 4 r = true then 2 else chkS (decP 4 r) := by
    unfold decSE
    rw [if_neg (by simp), ha', if_neg (by decide), if_neg (by rw [List.length_cons, hr]; decide), if_neg (by rw [List.length_cons, hr]; decide)]
    rfl
  have HE := Lib.hid hE
  have HD := Lib.hid (show decS (a :: r) = if decSE (a :: r) = 0 then decP 4 r else sec0 by unfold decS; rw [ha']; rfl)
  obtain ⟨b, o, c, rfl, hB, hn, hcm, _⟩ := hb.at_ (bys_at (k := 0) (by simp))
  obtain ⟨_, _, _, _, hcell⟩ := bs_cells hb (by simp)
  have hlen : (a :: r).length = 9 := by rw [List.length_cons, hr]
  have d0 : w.cell? ⟨b, o, none⟩ = some (.int .u8 4) := by
    have := hcell 0 (by simp)
    rw [ha'] at this
    exact this
  have hcut := hb.cut (k := 1) (by simp)
  have VC := Lib.hid (show ∀ W, Below w.heap.size w W → Calls Tryd.prog 51 #[.slice (some ⟨b, o + 1, none⟩) 8 (c - 1)] W fun e w' => e = .returned (.int .u64 ((leVal r : Nat) : Int)) ∧ W = w' by
    intro W hW
    have h := value_any r (some ⟨b, o + 1, none⟩) (c - 1) W w.heap.size (by
      have h1 := hcut.below hW
      rw [if_neg (by omega), hlen] at h1
      rw [hr]
      exact h1) (by omega)
    rwa [hr] at h)
  have hx := leVal_bound r 8 (by omega)
  have HE := Lib.hid (show decSE (a :: r) = chkS (decP 4 r) from HE.out.trans (if_neg (by show ¬ false = true; decide)))
  have hq : decP 4 r = ⟨4, 0, false, false, false, false, false, 0, leVal r, 0, 0, 0, 0⟩ := rfl
  rw [hq] at HE HD
  clear hq hcut
  generalize leVal r = x at *
  have HQ := Lib.hid (rscheck_any ⟨4, 0, false, false, false, false, false, 0, x, 0, 0, 0, 0⟩)
  rw [hlen] at hn ⊢
  unfold maxLen at hcm
  have hB1 : b < w.heap.size + 1 := by omega
  have hB2 : b < w.heap.size + 1 + 1 := by omega
  have hB3 : b ≠ w.heap.size := by omega
  have hB4 : b ≠ w.heap.size + 1 := by omega
  have hc9 : (9 : Int) ≤ (c : Int) := by omega
  have hc1 : ¬ c = 1 := by omega
  clear ha ha' hE hb hcell hlen hr
  go_enter Tryd.func38, Tryd.ntmps38
  go_wp2_with fail
  refine (length_any 4 _).mono ?_
  rintro e w1 ⟨rfl, rfl⟩
  rw [show lenK 4 = 9 from rfl]
  go_wp2_with fail
  refine (VC.out _ (al2 w _ _)).mono ?_
  rintro e w2 ⟨rfl, rfl⟩
  go_wp2_with fail
  refine (HQ.out _).mono ?_
  rintro e w7 ⟨rfl, hb7⟩
  obtain ⟨b0, b1, b2, b3⟩ := boxes2 w sec0 ⟨4, 0, false, false, false, false, false, 0, x, 0, 0, 0, 0⟩ 53
  have hs70 := b0.keep hb7 (by simp; omega)
  have hf70 := b1.keep hb7 (by simp; omega)
  have hs71 := b2.keep hb7 (by simp)
  have hbb7 := two hb7
  clear hb7 b0 b1 b2 b3 VC HQ d0
  have HS7 := Lib.hid hs70
  have HF7 := Lib.hid hf70
  have HB7 := Lib.hid hbb7
  have hz7 := sec_lt hs71
  have hz0 := sec_lt hs70
  by_cases hc : chkS ⟨4, 0, false, false, false, false, false, 0, x, 0, 0, 0, 0⟩ = 0
  · rw [hc]
    have HC := Lib.hid hc
    clear hc hs70 hf70 hbb7
    obtain ⟨p0, p1, p2, p3, p4, p5, p6, p7, p8, p9, p10, p11, p12⟩ := hs71.cells
    obtain ⟨c0, c1, c2, c3, c4, c5, c6, c7, c8, c9, c10, c11, c12⟩ := HS7.out.cells
    obtain ⟨f0, f1, f2, f3, f4, f5, f6, f7, f8, f9, f10, f11, f12⟩ := HF7.out.all
    clear hs71
    go_wp2_with fail
    refine bodyPost_ret (res_sec rfl _ _ w.heap.size ⟨4, 0, false, false, false, false, false, 0, x, 0, 0, 0, 0⟩ rfl ?_) rfl ⟨?_, ?_⟩
    · exact sec_put ⟨4, 0, false, false, false, false, false, 0, x, 0, 0, 0, 0⟩ HS7.out
    · rw [HD.out, HE.out, HC.out, if_pos rfl]; rfl
    · exact below_put ⟨4, 0, false, false, false, false, false, 0, x, 0, 0, 0, 0⟩ HB7.out (Nat.le_refl _)
  · have hc' := ne_bool hc
    have HC := Lib.hid hc
    clear hc hs70 hf70 hbb7 hs71
    generalize hcd : chkS ⟨4, 0, false, false, false, false, false, 0, x, 0, 0, 0, 0⟩ = cc at *
    have HCD := Lib.hid hcd
    clear hcd
    obtain ⟨c0, c1, c2, c3, c4, c5, c6, c7, c8, c9, c10, c11, c12⟩ := HS7.out.cells
    obtain ⟨f0, f1, f2, f3, f4, f5, f6, f7, f8, f9, f10, f11, f12⟩ := HF7.out.all
    go_wp2_with fail
    refine bodyPost_ret (res_sec rfl _ _ w.heap.size sec0 rfl ?_) rfl ⟨?_, ?_⟩
    · exact sec_put sec0 HS7.out
    · rw [HD.out, HE.out, if_neg HC.out]; rfl
    · exact below_put sec0 HB7.out (Nat.le_refl _)

set_option maxRecDepth 100000 in
set_option maxHeartbeats 4000000 in
theorem rsdecode_13 (a : UInt8) (r : List UInt8) (v : Value) (ha : a.toNat = 13) (hr : r.length = 8) (w : World) (hb : BS w w.heap.size v (a :: r)) : Calls Tryd.prog 38 #[v] w (SDecPost w (a :: r)) := by
  have ha' : (nB (a :: r) 0 : Int) = 13 := by show (a.toNat : Int) = 13; omega
  have hE : decSE (a :: r) = if badF 13 r = true then 2 else chkS (decP 13 r) := by
    unfold decSE
    rw [if_neg (by simp), ha', if_neg (by decide), if_neg (by rw [List.length_cons, hr]; decide), if_neg (by rw [List.length_cons, hr]; decide)]
    rfl
  have HE := Lib.hid hE
  have HD := Lib.hid (show decS (a :: r) = if decSE (a :: r) = 0 then decP 13 r else sec0 by unfold decS; rw [ha']; rfl)
  obtain ⟨b, o, c, rfl, hB, hn, hcm, _⟩ := hb.at_ (bys_at (k := 0) (by simp))
  obtain ⟨_, _, _, _, hcell⟩ := bs_cells hb (by simp)
  have hlen : (a :: r).length = 9 := by rw [List.length_cons, hr]
  have d0 : w.cell? ⟨b, o, none⟩ = some (.int .u8 13) := by
    have := hcell 0 (by simp)
    rw [ha'] at this
    exact this
  have hcut := hb.cut (k := 1) (by simp)
  have VC := Lib.hid (show ∀ W, Below w.heap.size w W → Calls Tryd.prog 51 #[.slice (some ⟨b, o + 1, none⟩) 8 (c - 1)] W fun e w' => e = .returned (.int .u64 ((leVal r : Nat) : Int)) ∧ W = w' by
    intro W hW
    have h := value_any r (some ⟨b, o + 1, none⟩) (c - 1) W w.heap.size (by
      have h1 := hcut.below hW
      rw [if_neg (by omega), hlen] at h1
      rw [hr]
      exact h1) (by omega)
    rwa [hr] at h)
  have hx := leVal_bound r 8 (by omega)
  have HE := Lib.hid (show decSE (a :: r) = chkS (decP 13 r) from HE.out.trans (if_neg (by show ¬ false = true; decide)))
  have hq : decP 13 r = ⟨13, 0, false, false, false, false, false, 0, leVal r, 0, 0, 0, 0⟩ := rfl
  rw [hq] at HE HD
  clear hq hcut
  generalize leVal r = x at *
  have HQ := Lib.hid (rscheck_any ⟨13, 0, false, false, false, false, false, 0, x, 0, 0, 0, 0⟩)
  rw [hlen] at hn ⊢
  unfold maxLen at hcm
  have hB1 : b < w.heap.size + 1 := by omega
  have hB2 : b < w.heap.size + 1 + 1 := by omega
  have hB3 : b ≠ w.heap.size := by omega
  have hB4 : b ≠ w.heap.size + 1 := by omega
  have hc9 : (9 : Int) ≤ (c : Int) := by omega
  have hc1 : ¬ c = 1 := by omega
  clear ha ha' hE hb hcell hlen hr
  go_enter Tryd.func38, Tryd.ntmps38
  go_wp2_with fail
  refine (length_any 13 _).mono ?_
  rintro e w1 ⟨rfl, rfl⟩
  rw [show lenK 13 = 9 from rfl]
  go_wp2_with fail
  refine (VC.out _ (al2 w _ _)).mono ?_
  rintro e w2 ⟨rfl, rfl⟩
  go_wp2_with fail
  refine (HQ.out _).mono ?_
  rintro e w7 ⟨rfl, hb7⟩
  obtain ⟨b0, b1, b2, b3⟩ := boxes2 w sec0 ⟨13, 0, false, false, false, false, false, 0, x, 0, 0, 0, 0⟩ 53
  have hs70 := b0.keep hb7 (by simp; omega)
  have hf70 := b1.keep hb7 (by simp; omega)
  have hs71 := b2.keep hb7 (by simp)
  have hbb7 := two hb7
  clear hb7 b0 b1 b2 b3 VC HQ d0
  have HS7 := Lib.hid hs70
  have HF7 := Lib.hid hf70
  have HB7 := Lib.hid hbb7
  have hz7 := sec_lt hs71
  have hz0 := sec_lt hs70
  by_cases hc : chkS ⟨13, 0, false, false, false, false, false, 0, x, 0, 0, 0, 0⟩ = 0
  · rw [hc]
    have HC := Lib.hid hc
    clear hc hs70 hf70 hbb7
    obtain ⟨p0, p1, p2, p3, p4, p5, p6, p7, p8, p9, p10, p11, p12⟩ := hs71.cells
    obtain ⟨c0, c1, c2, c3, c4, c5, c6, c7, c8, c9, c10, c11, c12⟩ := HS7.out.cells
    obtain ⟨f0, f1, f2, f3, f4, f5, f6, f7, f8, f9, f10, f11, f12⟩ := HF7.out.all
    clear hs71
    go_wp2_with fail
    refine bodyPost_ret (res_sec rfl _ _ w.heap.size ⟨13, 0, false, false, false, false, false, 0, x, 0, 0, 0, 0⟩ rfl ?_) rfl ⟨?_, ?_⟩
    · exact sec_put ⟨13, 0, false, false, false, false, false, 0, x, 0, 0, 0, 0⟩ HS7.out
    · rw [HD.out, HE.out, HC.out, if_pos rfl]; rfl
    · exact below_put ⟨13, 0, false, false, false, false, false, 0, x, 0, 0, 0, 0⟩ HB7.out (Nat.le_refl _)
  · have hc' := ne_bool hc
    have HC := Lib.hid hc
    clear hc hs70 hf70 hbb7 hs71
    generalize hcd : chkS ⟨13, 0, false, false, false, false, false, 0, x, 0, 0, 0, 0⟩ = cc at *
    have HCD := Lib.hid hcd
    clear hcd
    obtain ⟨c0, c1, c2, c3, c4, c5, c6, c7, c8, c9, c10, c11, c12⟩ := HS7.out.cells
    obtain ⟨f0, f1, f2, f3, f4, f5, f6, f7, f8, f9, f10, f11, f12⟩ := HF7.out.all
    go_wp2_with fail
    refine bodyPost_ret (res_sec rfl _ _ w.heap.size sec0 rfl ?_) rfl ⟨?_, ?_⟩
    · exact sec_put sec0 HS7.out
    · rw [HD.out, HE.out, if_neg HC.out]; rfl
    · exact below_put sec0 HB7.out (Nat.le_refl _)

set_option maxRecDepth 100000 in
set_option maxHeartbeats 4000000 in
theorem rsdecode_12 (a : UInt8) (r : List UInt8) (v : Value) (ha : a.toNat = 12) (hr : r.length = 4) (w : World) (hb : BS w w.heap.size v (a :: r)) : Calls Tryd.prog 38 #[v] w (SDecPost w (a :: r)) := by
  have ha' : (nB (a :: r) 0 : Int) = 12 := by show (a.toNat : Int) = 12; omega
  have hE : decSE (a :: r) = if badF 12 r = true then 2 else chkS (decP 12 r) := by
    unfold decSE
    rw [if_neg (by simp), ha', if_neg (by decide), if_neg (by rw [List.length_cons, hr]; decide), if_neg (by rw [List.length_cons, hr]; decide)]
    rfl
  have HE := Lib.hid hE
  have HD := Lib.hid (show decS (a :: r) = if decSE (a :: r) = 0 then decP 12 r else sec0 by unfold decS; rw [ha']; rfl)
  obtain ⟨b, o, c, rfl, hB, hn, hcm, _⟩ := hb.at_ (bys_at (k := 0) (by simp))
  obtain ⟨_, _, _, _, hcell⟩ := bs_cells hb (by simp)
  have hlen : (a :: r).length = 5 := by rw [List.length_cons, hr]
  have d0 : w.cell? ⟨b, o, none⟩ = some (.int .u8 12) := by
    have := hcell 0 (by simp)
    rw [ha'] at this
    exact this
  have hcut := hb.cut (k := 1) (by simp)
  have VC := Lib.hid (show ∀ W, Below w.heap.size w W → Calls Tryd.prog 51 #[.slice (some ⟨b, o + 1, none⟩) 4 (c - 1)] W fun e w' => e = .returned (.int .u64 ((leVal r : Nat) : Int)) ∧ W = w' by
    intro W hW
    have h := value_any r (some ⟨b, o + 1, none⟩) (c - 1) W w.heap.size (by
      have h1 := hcut.below hW
      rw [if_neg (by omega), hlen] at h1
      rw [hr]
      exact h1) (by omega)
    rwa [hr] at h)
  have hx := leVal_bound r 4 (by omega)
  have HE := Lib.hid (show decSE (a :: r) = chkS (decP 12 r) from HE.out.trans (if_neg (by show ¬ false = true; decide)))
  have hq : decP 12 r = ⟨12, 0, false, false, false, false, false, leVal r, 0, 0, 0, 0, 0⟩ := rfl
  rw [hq] at HE HD
  clear hq hcut
  generalize leVal r = x at *
  have hw0 := wr32 (show x ≤ 4294967295 by omega)
  have HQ := Lib.hid (rscheck_any ⟨12, 0, false, false, false, false, false, x, 0, 0, 0, 0, 0⟩)
  rw [hlen] at hn ⊢
  unfold maxLen at hcm
  have hB1 : b < w.heap.size + 1 := by omega
  have hB2 : b < w.heap.size + 1 + 1 := by omega
  have hB3 : b ≠ w.heap.size := by omega
  have hB4 : b ≠ w.heap.size + 1 := by omega
  have hc5 : (5 : Int) ≤ (c : Int) := by omega
  have hc1 : ¬ c = 1 := by omega
  clear ha ha' hE hb hcell hlen hr
  go_enter Tryd.func38, Tryd.ntmps38
  go_wp2_with fail
  refine (length_any 12 _).mono ?_
  rintro e w1 ⟨rfl, rfl⟩
  rw [show lenK 12 = 5 from rfl]
  go_wp2_with fail
  refine (VC.out _ (al2 w _ _)).mono ?_
  rintro e w2 ⟨rfl, rfl⟩
  go_wp2_with fail
  refine (HQ.out _).mono ?_
  rintro e w7 ⟨rfl, hb7⟩
  obtain ⟨b0, b1, b2, b3⟩ := boxes2 w sec0 ⟨12, 0, false, false, false, false, false, x, 0, 0, 0, 0, 0⟩ 53
  have hs70 := b0.keep hb7 (by simp; omega)
  have hf70 := b1.keep hb7 (by simp; omega)
  have hs71 := b2.keep hb7 (by simp)
  have hbb7 := two hb7
  clear hb7 b0 b1 b2 b3 VC HQ d0
  have HS7 := Lib.hid hs70
  have HF7 := Lib.hid hf70
  have HB7 := Lib.hid hbb7
  have hz7 := sec_lt hs71
  have hz0 := sec_lt hs70
  by_cases hc : chkS ⟨12, 0, false, false, false, false, false, x, 0, 0, 0, 0, 0⟩ = 0
  · rw [hc]
    have HC := Lib.hid hc
    clear hc hs70 hf70 hbb7
    obtain ⟨p0, p1, p2, p3, p4, p5, p6, p7, p8, p9, p10, p11, p12⟩ := hs71.cells
    obtain ⟨c0, c1, c2, c3, c4, c5, c6, c7, c8, c9, c10, c11, c12⟩ := HS7.out.cells
    obtain ⟨f0, f1, f2, f3, f4, f5, f6, f7, f8, f9, f10, f11, f12⟩ := HF7.out.all
    clear hs71
    go_wp2_with fail
    refine bodyPost_ret (res_sec rfl _ _ w.heap.size ⟨12, 0, false, false, false, false, false, x, 0, 0, 0, 0, 0⟩ rfl ?_) rfl ⟨?_, ?_⟩
    · exact sec_put ⟨12, 0, false, false, false, false, false, x, 0, 0, 0, 0, 0⟩ HS7.out
    · rw [HD.out, HE.out, HC.out, if_pos rfl]; rfl
    · exact below_put ⟨12, 0, false, false, false, false, false, x, 0, 0, 0, 0, 0⟩ HB7.out (Nat.le_refl _)
  · have hc' := ne_bool hc
    have HC := Lib.hid hc
    clear hc hs70 hf70 hbb7 hs71
    generalize hcd : chkS ⟨12, 0, false, false, false, false, false, x, 0, 0, 0, 0, 0⟩ = cc at *
    have HCD := Lib.hid hcd
    clear hcd
    obtain ⟨c0, c1, c2, c3, c4, c5, c6, c7, c8, c9, c10, c11, c12⟩ := HS7.out.cells
    obtain ⟨f0, f1, f2, f3, f4, f5, f6, f7, f8, f9, f10, f11, f12⟩ := HF7.out.all
    go_wp2_with fail
    refine bodyPost_ret (res_sec rfl _ _ w.heap.size sec0 rfl ?_) rfl ⟨?_, ?_⟩
    · exact sec_put sec0 HS7.out
    · rw [HD.out, HE.out, if_neg HC.out]; rfl
    · exact below_put sec0 HB7.out (Nat.le_refl _)

set_option maxRecDepth 100000 in
set_option maxHeartbeats 4000000 in
theorem rsdecode_5 (a : UInt8) (r : List UInt8) (v : Value) (ha : a.toNat = 5) (hr : r.length = 1) (w : World) (hb : BS w w.heap.size v (a :: r)) : Calls Tryd.prog 38 #[v] w (SDecPost w (a :: r)) := by
  have ha' : (nB (a :: r) 0 : Int) = 5 := by show (a.toNat : Int) = 5; omega
  have hE : decSE (a :: r) = if badF 5 r = true then 2 else chkS (decP 5 r) := by
    unfold decSE
    rw [if_neg (by simp), ha', if_neg (by decide), if_neg (by rw [List.length_cons, hr]; decide), if_neg (by rw [List.length_cons, hr]; decide)]
    rfl
  have HE := Lib.hid hE
  have HD := Lib.hid (show decS (a :: r) = if decSE (a :: r) = 0 then decP 5 r else sec0 by unfold decS; rw [ha']; rfl)
  obtain ⟨b, o, c, rfl, hB, hn, hcm, _⟩ := hb.at_ (bys_at (k := 0) (by simp))
  obtain ⟨_, _, _, _, hcell⟩ := bs_cells hb (by simp)
  have hlen : (a :: r).length = 2 := by rw [List.length_cons, hr]
  have d0 : w.cell? ⟨b, o, none⟩ = some (.int .u8 5) := by
    have := hcell 0 (by simp)
    rw [ha'] at this
    exact this
  have d1 : w.cell? ⟨b, o + 1, none⟩ = some (.int .u8 ((nB r 0 : Nat) : Int)) := hcell 1 (by omega)
  have hx := nB_lt r 0
  have HE := Lib.hid (show decSE (a :: r) = chkS (decP 5 r) from HE.out.trans (if_neg (by show ¬ false = true; decide)))
  have hq : decP 5 r = ⟨5, 0, false, false, false, false, false, 0, 0, 0, 0, 0, (nB r 0 : Int)⟩ := rfl
  rw [hq] at HE HD
  clear hq
  generalize nB r 0 = x at *
  have hw0 := wri64 (show x ≤ 9223372036854775807 by omega)
  have HQ := Lib.hid (rscheck_any ⟨5, 0, false, false, false, false, false, 0, 0, 0, 0, 0, (x : Int)⟩)
  rw [hlen] at hn ⊢
  unfold maxLen at hcm
  have hB1 : b < w.heap.size + 1 := by omega
  have hB2 : b < w.heap.size + 1 + 1 := by omega
  have hB3 : b ≠ w.heap.size := by omega
  have hB4 : b ≠ w.heap.size + 1 := by omega
  have hc2 : (2 : Int) ≤ (c : Int) := by omega
  have hc1 : ¬ c = 1 := by omega
  clear ha ha' hE hb hcell hlen hr
  go_enter Tryd.func38, Tryd.ntmps38
  go_wp2_with fail
  refine (length_any 5 _).mono ?_
  rintro e w1 ⟨rfl, rfl⟩
  rw [show lenK 5 = 2 from rfl]
  go_wp2_with fail
  refine (HQ.out _).mono ?_
  rintro e w7 ⟨rfl, hb7⟩
  obtain ⟨b0, b1, b2, b3⟩ := boxes2 w sec0 ⟨5, 0, false, false, false, false, false, 0, 0, 0, 0, 0, (x : Int)⟩ 53
  have hs70 := b0.keep hb7 (by simp; omega)
  have hf70 := b1.keep hb7 (by simp; omega)
  have hs71 := b2.keep hb7 (by simp)
  have hbb7 := two hb7
  clear hb7 b0 b1 b2 b3 HQ d0 d1
  have HS7 := Lib.hid hs70
  have HF7 := Lib.hid hf70
  have HB7 := Lib.hid hbb7
  have hz7 := sec_lt hs71
  have hz0 := sec_lt hs70
  by_cases hc : chkS ⟨5, 0, false, false, false, false, false, 0, 0, 0, 0, 0, (x : Int)⟩ = 0
  · rw [hc]
    have HC := Lib.hid hc
    clear hc hs70 hf70 hbb7
    obtain ⟨p0, p1, p2, p3, p4, p5, p6, p7, p8, p9, p10, p11, p12⟩ := hs71.cells
    obtain ⟨c0, c1, c2, c3, c4, c5, c6, c7, c8, c9, c10, c11, c12⟩ := HS7.out.cells
    obtain ⟨f0, f1, f2, f3, f4, f5, f6, f7, f8, f9, f10, f11, f12⟩ := HF7.out.all
    clear hs71
    go_wp2_with fail
    refine bodyPost_ret (res_sec rfl _ _ w.heap.size ⟨5, 0, false, false, false, false, false, 0, 0, 0, 0, 0, (x : Int)⟩ rfl ?_) rfl ⟨?_, ?_⟩
    · exact sec_put ⟨5, 0, false, false, false, false, false, 0, 0, 0, 0, 0, (x : Int)⟩ HS7.out
    · rw [HD.out, HE.out, HC.out, if_pos rfl]; rfl
    · exact below_put ⟨5, 0, false, false, false, false, false, 0, 0, 0, 0, 0, (x : Int)⟩ HB7.out (Nat.le_refl _)
  · have hc' := ne_bool hc
    have HC := Lib.hid hc
    clear hc hs70 hf70 hbb7 hs71
    generalize hcd : chkS ⟨5, 0, false, false, false, false, false, 0, 0, 0, 0, 0, (x : Int)⟩ = cc at *
    have HCD := Lib.hid hcd
    clear hcd
    obtain ⟨c0, c1, c2, c3, c4, c5, c6, c7, c8, c9, c10, c11, c12⟩ := HS7.out.cells
    obtain ⟨f0, f1, f2, f3, f4, f5, f6, f7, f8, f9, f10, f11, f12⟩ := HF7.out.all
    go_wp2_with fail
    refine bodyPost_ret (res_sec rfl _ _ w.heap.size sec0 rfl ?_) rfl ⟨?_, ?_⟩
    · exact sec_put sec0 HS7.out
    · rw [HD.out, HE.out, if_neg HC.out]; rfl
    · exact below_put sec0 HB7.out (Nat.le_refl _)

set_option maxRecDepth 100000 in
set_option maxHeartbeats 4000000 in
theorem rsdecode_11 (a : UInt8) (r : List UInt8) (v : Value) (ha : a.toNat = 11) (hr : r.length = 1) (w : World) (hb : BS w w.heap.size v (a :: r)) : Calls Tryd.prog 38 #[v] w (SDecPost w (a :: r)) := by
  have ha' : (nB (a :: r) 0 : Int) = 11 := by show (a.toNat : Int) = 11; omega
  have hE : decSE (a :: r) = if badF 11 r = true then 2 else chkS (decP 11 r) := by
    unfold decSE
    rw [if_neg (by simp), ha', if_neg (by decide), if_neg (by rw [List.length_cons, hr]; decide), if_neg (by rw [List.length_cons, hr]; decide)]
    rfl
  have HE := Lib.hid hE
  have HD := Lib.hid (show decS (a :: r) = if decSE (a :: r) = 0 then decP 11 r else sec0 by unfold decS; rw [ha']; rfl)
  obtain ⟨b, o, c, rfl, hB, hn, hcm, _⟩ := hb.at_ (bys_at (k := 0) (by simp))
  obtain ⟨_, _, _, _, hcell⟩ := bs_cells hb (by simp)
  have hlen : (a :: r).length = 2 := by rw [List.length_cons, hr]
  have d0 : w.cell? ⟨b, o, none⟩ = some (.int .u8 11) := by
    have := hcell 0 (by simp)
    rw [ha'] at this
    exact this
  have d1 : w.cell? ⟨b, o + 1, none⟩ = some (.int .u8 ((nB r 0 : Nat) : Int)) := hcell 1 (by omega)
  have hx := nB_lt r 0
  have HBF := Lib.hid (show badF 11 r = decide (6 < nB r 0 ∨ nB r 0 % 2 = 1) from rfl)
  have HDP := Lib.hid (show decP 11 r = ⟨11, 0, false, bitN (nB r 0) 1, bitN (nB r 0) 2, false, false, 0, 0, 0, 0, 0, 0⟩ from rfl)
  generalize nB r 0 = x at *
  have HF := Lib.hid (rfeatures_any 0 x)
  rw [hlen] at hn ⊢
  unfold maxLen at hcm
  have hB1 : b < w.heap.size + 1 := by omega
  have hB2 : b < w.heap.size + 1 + 1 := by omega
  have hB3 : b ≠ w.heap.size := by omega
  have hB4 : b ≠ w.heap.size + 1 := by omega
  have hc2 : (2 : Int) ≤ (c : Int) := by omega
  have hc1 : ¬ c = 1 := by omega
  clear ha ha' hE hb hcell hlen hr
  go_enter Tryd.func38, Tryd.ntmps38
  go_wp2_with fail
  refine (length_any 11 _).mono ?_
  rintro e w1 ⟨rfl, rfl⟩
  rw [show lenK 11 = 2 from rfl]
  go_wp2_with fail
  refine (HF.out _).mono ?_
  rintro e w5 ⟨rfl, hb5⟩
  obtain ⟨b0, b1, b2, b3⟩ := boxes2 w sec0 (kindP 11) 53
  have hs50 := b0.keep hb5 (by simp; omega)
  have hf50 := b1.keep hb5 (by simp; omega)
  have hs51 := b2.keep hb5 (by simp)
  have hf51 := b3.keep hb5 (by simp)
  have d1' : w5.cell? ⟨b, o + 1, none⟩ = some (.int .u8 (x : Int)) := by rw [blow hb5 b (o + 1) (by simp; omega)]; simp [go_sem, d1, hB, hB1]
  have hz5 := sec_lt hs51
  have hz50 := sec_lt hs50
  have HS50 := Lib.hid hs50
  have HF50 := Lib.hid hf50
  have HS51 := Lib.hid hs51
  have HF51 := Lib.hid hf51
  have HB5 := Lib.hid (two hb5)
  clear hb5 b0 b1 b2 b3 d0 d1 hs50 hf50 hf51 HF
  obtain ⟨q0, q1, q2, q3, q4, q5, q6, q7, q8, q9, q10, q11, q12⟩ := hs51.cells
  obtain ⟨z0, z1, z2, z3, z4, z5, z6, z7, z8, z9, z10, z11, z12⟩ := HF51.out.all
  clear hs51
  by_cases hbad : 6 < x ∨ x % 2 = 1
  · have HE2 := Lib.hid (HE.out.trans (if_pos (by rw [HBF.out]; exact decide_eq_true hbad)))
    obtain ⟨c0, c1, c2, c3, c4, c5, c6, c7, c8, c9, c10, c11, c12⟩ := HS50.out.cells
    obtain ⟨f0, f1, f2, f3, f4, f5, f6, f7, f8, f9, f10, f11, f12⟩ := HF50.out.all
    have HSA := Lib.hid (sec_feat HS51.out 0 (bitN x 0) (bitN x 1) (bitN x 2) (bitN x 3) (bitN x 4))
    generalize bitN x 0 = g0 at *
    generalize bitN x 1 = g1 at *
    generalize bitN x 2 = g2 at *
    generalize bitN x 3 = g3 at *
    generalize bitN x 4 = g4 at *
    by_cases h6 : 6 < x
    · clear hbad
      go_wp2_with fail
      refine bodyPost_ret (res_sec rfl _ _ w.heap.size sec0 rfl ?_) rfl ⟨?_, ?_⟩
      · exact sec_put sec0 (SecAt.far (SecAt.far (SecAt.far (SecAt.far (SecAt.far (SecAt.far HS50.out (by show w.heap.size + 1 ≠ _; omega) _) (by show w.heap.size + 1 ≠ _; omega) _) (by show w.heap.size + 1 ≠ _; omega) _) (by show w.heap.size + 1 ≠ _; omega) _) (by show w.heap.size + 1 ≠ _; omega) _) (by show w.heap.size + 1 ≠ _; omega) _)
      · rw [HD.out, HE2.out]; rfl
      · refine below_put sec0 ?_ (Nat.le_refl _)
        repeat refine Below.setCell ?_ (by show _ ≤ w.heap.size + 1; omega) _
        exact HB5.out
    · have h2 : ((x : Int) % 2 == 1) = true := by rw [beq_iff_eq]; omega
      clear hbad
      go_wp2_with fail
      refine bodyPost_ret (res_sec rfl _ _ w.heap.size sec0 rfl ?_) rfl ⟨?_, ?_⟩
      · exact sec_put sec0 (SecAt.far (SecAt.far (SecAt.far (SecAt.far (SecAt.far (SecAt.far HS50.out (by show w.heap.size + 1 ≠ _; omega) _) (by show w.heap.size + 1 ≠ _; omega) _) (by show w.heap.size + 1 ≠ _; omega) _) (by show w.heap.size + 1 ≠ _; omega) _) (by show w.heap.size + 1 ≠ _; omega) _) (by show w.heap.size + 1 ≠ _; omega) _)
      · rw [HD.out, HE2.out]; rfl
      · refine below_put sec0 ?_ (Nat.le_refl _)
        repeat refine Below.setCell ?_ (by show _ ≤ w.heap.size + 1; omega) _
        exact HB5.out
  · obtain ⟨e0, e3, e4⟩ := bits_6 ⟨x, by omega⟩ (by show x % 2 = 0; omega)
    simp only at e0 e3 e4
    have HE := Lib.hid (HE.out.trans (if_neg (by rw [HBF.out, decide_eq_false hbad]; decide)))
    rw [HDP.out] at HE HD
    have h6 : ¬ 6 < x := by omega
    have h2 : ((x : Int) % 2 == 1) = false := by rw [beq_eq_false_iff_ne]; omega
    rw [e0, e3, e4]
    clear e0 e3 e4 hbad
    generalize bitN x 1 = g1 at *
    generalize bitN x 2 = g2 at *
    have HQ := Lib.hid (rscheck_any ⟨11, 0, false, g1, g2, false, false, 0, 0, 0, 0, 0, 0⟩)
    go_wp2_with fail
    refine (HQ.out _).mono ?_
    rintro e w7 ⟨rfl, hb7⟩
    have hs70 := (SecAt.far (SecAt.far (SecAt.far (SecAt.far (SecAt.far (SecAt.far HS50.out (by show w.heap.size + 1 ≠ _; omega) _) (by show w.heap.size + 1 ≠ _; omega) _) (by show w.heap.size + 1 ≠ _; omega) _) (by show w.heap.size + 1 ≠ _; omega) _) (by show w.heap.size + 1 ≠ _; omega) _) (by show w.heap.size + 1 ≠ _; omega) _).keep hb7 (by simp; omega)
    have hf70 := ((((((HF50.out.set _ _).set _ _).set _ _).set _ _).set _ _).set _ _).keep hb7 (by simp; omega)
    have hs71 : SecAt w7 (w.heap.size + 1) ⟨11, 0, false, g1, g2, false, false, 0, 0, 0, 0, 0, 0⟩ := (sec_feat HS51.out 0 false g1 g2 false false).keep hb7 (by simp; omega)
    have hbb7 : Below w.heap.size w w7 := by
      refine Below.trans ?_ (hb7.mono (by simp; omega))
      repeat refine Below.setCell ?_ (by show _ ≤ w.heap.size + 1; omega) _
      exact HB5.out
    clear hb7 HQ d1' q0 q1 q2 q3 q4 q5 q6 q7 q8 q9 q10 q11 q12 z0 z1 z2 z3 z4 z5 z6 z7 z8 z9 z10 z11 z12 HS50 HF50 HS51 HF51
    have HS7 := Lib.hid hs70
    have HF7 := Lib.hid hf70
    have HB7 := Lib.hid hbb7
    have hz7 := sec_lt hs71
    have hz0 := sec_lt hs70
    by_cases hc : chkS ⟨11, 0, false, g1, g2, false, false, 0, 0, 0, 0, 0, 0⟩ = 0
    · rw [hc]
      have HC := Lib.hid hc
      clear hc hs70 hf70 hbb7
      obtain ⟨p0, p1, p2, p3, p4, p5, p6, p7, p8, p9, p10, p11, p12⟩ := hs71.cells
      obtain ⟨c0, c1, c2, c3, c4, c5, c6, c7, c8, c9, c10, c11, c12⟩ := HS7.out.cells
      obtain ⟨f0, f1, f2, f3, f4, f5, f6, f7, f8, f9, f10, f11, f12⟩ := HF7.out.all
      clear hs71
      go_wp2_with fail
      refine bodyPost_ret (res_sec rfl _ _ w.heap.size ⟨11, 0, false, g1, g2, false, false, 0, 0, 0, 0, 0, 0⟩ rfl ?_) rfl ⟨?_, ?_⟩
      · exact sec_put ⟨11, 0, false, g1, g2, false, false, 0, 0, 0, 0, 0, 0⟩ HS7.out
      · rw [HD.out, HE.out, HC.out, if_pos rfl]; rfl
      · exact below_put ⟨11, 0, false, g1, g2, false, false, 0, 0, 0, 0, 0, 0⟩ HB7.out (Nat.le_refl _)
    · have hc' := ne_bool hc
      have HC := Lib.hid hc
      clear hc hs70 hf70 hbb7 hs71
      generalize hcd : chkS ⟨11, 0, false, g1, g2, false, false, 0, 0, 0, 0, 0, 0⟩ = cc at *
      have HCD := Lib.hid hcd
      clear hcd
      obtain ⟨c0, c1, c2, c3, c4, c5, c6, c7, c8, c9, c10, c11, c12⟩ := HS7.out.cells
      obtain ⟨f0, f1, f2, f3, f4, f5, f6, f7, f8, f9, f10, f11, f12⟩ := HF7.out.all
      go_wp2_with fail
      refine bodyPost_ret (res_sec rfl _ _ w.heap.size sec0 rfl ?_) rfl ⟨?_, ?_⟩
      · exact sec_put sec0 HS7.out
      · rw [HD.out, HE.out, if_neg HC.out]; rfl
      · exact below_put sec0 HB7.out (Nat.le_refl _)
end Go.Proofs.YtpomobeogkfmfaaDoor
