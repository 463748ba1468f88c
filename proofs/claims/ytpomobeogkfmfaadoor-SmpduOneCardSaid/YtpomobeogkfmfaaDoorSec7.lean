/- Walks of package smpdu: Encode. -/
import Derived.Test.YtpomobeogkfmfaaDoorSec6
namespace Go.Proofs.YtpomobeogkfmfaaDoor
open Go.RowKit

/-- What an encoding of a PDU leaves. -/
def SEncPost (w : World) (p : Sec) (e : Ending) (w' : World) : Prop :=
  Below w.heap.size w w' ∧ (chkS p = 0 → ∃ v, e = .returned (.tuple #[v, .int .i64 0]) ∧ w'.ownsRow w.heap.size 5 1 v (encS p).length (bys (encS p))) ∧
    (chkS p ≠ 0 → e = .returned (.tuple #[.slice none 0 0, .int .i64 (chkS p)]))

theorem siz_num (p : Sec) (h : hasK p.kind = true) : (sizK p.kind).length = (numS p).length ∧ (sizK p.kind).length ≤ 3 ∧ 0 < (sizK p.kind).length := by
  obtain ⟨k, io, o, b, m, s, t, pu, va, ak, ax, ir, rs⟩ := p
  have hk := hasK_yes h
  simp only at hk
  rcases hk with hk | hk | hk | hk | hk | hk | hk | hk | hk
  all_goals
    subst hk
    simp [sizK, numS]

theorem flds_snoc (l : List (Int × Nat)) (s : Int) (x : Nat) : flds l ++ [.int .i64 s, .int .u64 (x : Int)] = flds (l ++ [(s, x)]) := by simp [flds]
theorem zip_snoc {l : List Int} {m : List Nat} {k : Nat} (h : k < l.length) (h' : k < m.length) (a : Int × Nat) : a :: (l.zip m).take k ++ [(l[k], m[k])] = a :: (l.zip m).take (k + 1) := by
  rw [List.take_succ_eq_append_getElem (by rw [List.length_zip]; omega), List.getElem_zip]
  rfl

set_option maxRecDepth 100000 in
set_option maxHeartbeats 4000000 in
theorem sencode_bad (p : Sec) (hc : chkS p ≠ 0) (w : World) (hT : PTab w) : Calls Tryd.prog 35 #[secV p] w (SEncPost w p) := by
  have C := Lib.hid (scheck_any p)
  have HT := Lib.hid (hT.keep (al1 w (.cells (secV p).cells 53)))
  have HC := Lib.hid hc
  have hc' := ne_bool hc
  clear hc hT
  go_enter Tryd.func35, Tryd.ntmps35
  go_wp2_with fail
  refine (C.out _ HT.out).mono ?_
  rintro e w1 ⟨rfl, hb1⟩
  have HB1 := Lib.hid (one hb1)
  clear hb1 C
  generalize hcd : chkS p = c at *
  have HCD := Lib.hid hcd
  clear hcd
  go_wp2_with fail
  go_ret2
  exact ⟨HB1.out, fun h => absurd (HCD.out.symm.trans h) HC.out, fun _ => by rw [HCD.out]; rfl⟩

set_option maxRecDepth 100000 in
set_option maxHeartbeats 1000000 in
theorem sencode_ok (p : Sec) (hc : chkS p = 0) (hr : SecOk p) (w : World) (hT : PTab w) : Calls Tryd.prog 35 #[secV p] w (SEncPost w p) := by
  have hh := (chkS_ok hc).1
  obtain ⟨hsn, hs3, hs0⟩ := siz_num p hh
  have HP := Lib.hid (put_sec hc hr)
  have C := Lib.hid (show ∀ w, PTab w → Calls Tryd.prog 33 #[secV p] w fun e w' => e = .returned (.int .i64 0) ∧ Below w.heap.size w w' by
    intro w hT
    have h := scheck_any p w hT
    unfold CheckPost at h
    rwa [hc] at h)
  have CN := Lib.hid (numbers_any p hc hr)
  have CS := Lib.hid (sizes_any p.kind hh)
  have HT := Lib.hid hT
  have HC := Lib.hid hc
  have hkk : ∃ n : Nat, p.kind = (n : Int) ∧ n ≤ 13 := by
    have hk := hasK_yes hh
    exact ⟨p.kind.toNat, by omega, by omega⟩
  obtain ⟨n, hn, hn13⟩ := hkk
  have hwr := wr64 (show n ≤ 18446744073709551615 by omega)
  have HF := Lib.hid (show fldS p = (1, n) :: (sizK p.kind).zip (numS p) by unfold fldS; rw [hn]; rfl)
  have hrg : (∀ f ∈ fldS p, f.2 < 2 ^ 64) := by
    intro f hf
    obtain ⟨j, hj, rfl⟩ := List.getElem_of_mem hf
    rcases Nat.lt_or_ge (fldS p)[j].2 (2 ^ 64) with h | h
    · exact h
    · have hb := putS_bad hj (by unfold fok; rw [decide_eq_false]; intro h2; have h3 : 2 ^ (8 * (fldS p)[j].1.toNat) ≤ 2 ^ 64 := Nat.pow_le_pow_right (by omega) (by omega); omega)
      rw [hb] at HP
      cases HP.out
  have HRG := Lib.hid hrg
  clear hc hh hT hr hrg
  generalize sizK p.kind = ss at *
  generalize numS p = ns at *
  obtain ⟨k, io, o, b, m, s, t, pu, va, ak, ax, ir, rs⟩ := p
  obtain rfl : k = (n : Int) := hn
  go_enter Tryd.func35, Tryd.ntmps35
  go_wp2_with fail
  refine (C.out _ (HT.out.keep (al1 w _))).mono ?_
  rintro e w1 ⟨rfl, hb1⟩
  have hs := (SecAt.new w ⟨n, io, o, b, m, s, t, pu, va, ak, ax, ir, rs⟩ 53).keep hb1 (by simp)
  have hz1 := sz1 hb1
  obtain ⟨c0, c1, c2, c3, c4, c5, c6, c7, c8, c9, c10, c11, c12⟩ := hs.cells
  have HS := Lib.hid hs
  have HB1 := Lib.hid (one hb1)
  clear hb1 hs C
  go_wp2_with fail
  refine (CN.out _).mono ?_
  rintro e w2 ⟨hb2, vn, rfl, hown2⟩
  have hs := (HS.out.keep (al1 w1 (.cells #[.int .i64 1, .int .u64 (n : Int)] 75)) hz1).keep hb2 (by simp; omega)
  clear c0 c1 c2 c3 c4 c5 c6 c7 c8 c9 c10 c11 c12
  obtain ⟨c0, c1, c2, c3, c4, c5, c6, c7, c8, c9, c10, c11, c12⟩ := hs.cells
  have hz2 := sz1 hb2
  have hz3 : w.heap.size < w2.heap.size := by omega
  have HL := Lib.hid (own_on (World.ownsRow_lit (base := w1.heap.size) (e := 75) (size := 2) w1 #[.int .i64 1, .int .u64 (n : Int)] 1 (Nat.le_refl _) (by simp [maxLen]) rfl) hb2)
  have HO2 := Lib.hid hown2
  have HB2 := Lib.hid (bthen HB1.out (one hb2))
  clear hb2 hs hown2
  go_wp2_with fail
  refine (CS.out _).mono ?_
  rintro e w3 ⟨hb3, vs, rfl, hown3⟩
  have HB3 := Lib.hid (bthen HB2.out hb3)
  have HL3 := Lib.hid (own_base (own_on HL.out hb3) HB1.out.size)
  have HO3 := Lib.hid (own_base (own_on HO2.out hb3) (show w.heap.size ≤ _ by simp; have := HB1.out.size; omega))
  have HV3 := Lib.hid (own_base hown3 HB2.out.size)
  have A1 := Lib.hid (Apart.of_base HL.out hown3 (Nat.le_refl _))
  have A2 := Lib.hid (show Apart (.slice (some ⟨w1.heap.size, 0, none⟩) 1 1) vn from by
    intro g h1 h2
    have h3 := (HO2.out.lt g h2).1
    have h4 : w1.heap.size = g := Option.some.inj h1
    simp at h3
    omega)
  obtain ⟨gs, cs, rfl, hgs1, hgs2⟩ := own_addr HV3.out hs0
  obtain ⟨gn, cn, rfl, hgn1, hgn2⟩ := own_addr HO3.out (show 0 < ns.length by omega)
  clear hb3 hown3 c0 c1 c2 c3 c4 c5 c6 c7 c8 c9 c10 c11 c12 HS
  go_wp2_with fail
  go_loopw [5, 25] (fun v i wr => ∃ k : Nat, k ≤ ss.length ∧ i = .int .i64 k ∧ wr.ownsRow w.heap.size 75 2 v (k + 1) (flds ((1, n) :: (ss.zip ns).take k)) ∧ wr.ownsRow w.heap.size 3 1 (.slice (some ⟨gs, 0, none⟩) ss.length cs) ss.length (ints ss) ∧
    wr.ownsRow w.heap.size 22 1 (.slice (some ⟨gn, 0, none⟩) ns.length cn) ns.length (nums ns) ∧ Apart v (.slice (some ⟨gs, 0, none⟩) ss.length cs) ∧ Apart v (.slice (some ⟨gn, 0, none⟩) ns.length cn) ∧ Below w.heap.size w wr) (fun _ i _ => ss.length - (intOf i).toNat)
  case atStart => exact ⟨0, Nat.zero_le _, rfl, HL3.out, HV3.out, HO3.out, A1.out, A2.out, HB3.out⟩
  case round =>
    obtain ⟨k, hk, rfl, ho, hv, hm, ha1, ha2, hbel⟩ := hrel
    obtain ⟨wo, rfl⟩ : ∃ wo : World, wo = wr := ⟨_, rfl⟩
    have HO := Lib.hid ho
    have HV := Lib.hid hv
    have HM := Lib.hid hm
    have HA1 := Lib.hid ha1
    have HA2 := Lib.hid ha2
    have HB := Lib.hid hbel
    have hgs := (hv.lt gs rfl).2
    have hgn := (hm.lt gn rfl).2
    by_cases hlt : k < ss.length
    · have hltn : k < ns.length := by omega
      have d0 := own_cell hv (ints_at' hlt)
      have d1 := own_cell hm (nums_at hltn)
      have HZ := Lib.hid (zip_snoc hlt hltn (1, n))
      clear ho hv hm ha1 ha2 hbel
      generalize ss[k] = sk at *
      generalize ns[k] = nk at *
      go_wp2_with (first
        | (at_builtin
           refine app_sl _ elF rfl (.tmp 30) (.tmp 37) rfl rfl (HO.out.alloc _) rfl (Sl.lit (size := 2) wo #[.int .i64 sk, .int .u64 (nk : Int)] _ 1 rfl (by simp [maxLen])) ?_ ?_ ?_ ?_
           (case refine_1 => intro u hu; simp at hu; rcases hu with rfl | rfl <;> rfl)
           (case refine_2 => omega)
           (case refine_3 => exact Nat.le_trans HB.out.size (by simp))
           intro v4 w4 hown4 hg4 hnil4 hat4))
      have hb4 : Below w.heap.size w w4 := below_app (HB.out.alloc HB.out.size _) (HO.out.alloc _) hg4 (Nat.le_refl _) (Nat.le_trans HB.out.size (by simp))
      have K1 := Lib.hid (show w4.ownsRow w.heap.size 75 2 v4 (k + 1 + 1) (flds ((1, n) :: (ss.zip ns).take (k + 1))) by
        rw [← HZ.out, ← flds_snoc]
        exact hown4)
      have K2 := Lib.hid (own_apart (HV.out.alloc _) hg4 HA1.out.row)
      have K3 := Lib.hid (own_apart (HM.out.alloc _) hg4 HA2.out.row)
      have K4 := Lib.hid (HA1.out.left (HV.out.alloc _) hat4)
      have K5 := Lib.hid (HA2.out.left (HM.out.alloc _) hat4)
      have K6 := Lib.hid hb4
      clear hown4 hg4 hnil4 hat4 hb4 d0 d1
      go_wp2
      go_roundw
      case rel => exact ⟨k + 1, by omega, by go_num, K1.out, K2.out, K3.out, K4.out, K5.out, K6.out⟩
      case measure => simp [intOf]; omega
    · obtain rfl : k = ss.length := by omega
      have hz : (ss.zip ns).take ss.length = ss.zip ns := List.take_of_length_le (by rw [List.length_zip]; omega)
      rw [hz] at ho
      have hl : ((1, n) :: ss.zip ns : List (Int × Nat)).length = ss.length + 1 := by rw [List.length_cons, List.length_zip]; omega
      have HS1 := Lib.hid (Sl.of_own ho)
      have HR := Lib.hid (HRG.out)
      rw [HF.out] at HR HP
      clear ho hv hm ha1 ha2 hbel hz HO
      generalize ((1, n) :: ss.zip ns : List (Int × Nat)) = L at *
      have HHL := Lib.hid hl
      clear hl
      go_wp2_with fail
      refine (put_v _ L HR.out (by rw [HHL.out]; omega) (by rw [HHL.out]; exact HS1.out)).mono ?_
      rintro e w4 ⟨hb4, hm⟩
      rw [HP.out] at hm
      obtain ⟨v, rfl, hown⟩ := hm
      have K1 := Lib.hid hown
      have K2 := Lib.hid (bthen HB.out hb4)
      clear hown hb4
      go_wp2_with fail
      go_ret2
      exact ⟨K2.out, fun _ => ⟨v, rfl, own_base K1.out HB.out.size⟩, fun h => absurd HC.out h⟩

/-- smpdu.Encode returns the bytes of a PDU, or its error. -/
theorem sencode_any (p : Sec) (hr : SecOk p) (w : World) (hT : PTab w) : Calls Tryd.prog 35 #[secV p] w (SEncPost w p) := by
  by_cases hc : chkS p = 0
  · exact sencode_ok p hc hr w hT
  · exact sencode_bad p hc w hT
end Go.Proofs.YtpomobeogkfmfaaDoor
