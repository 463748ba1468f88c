/- The walks of the laws of adata: AdataContents. No condition but the reach of the form. -/
import Derived.Test.YtncenlmfhnljgaaLw18c
namespace Go.Proofs.Ytncenlmfhnljgaa
open Go.RowKit

set_option maxRecDepth 100000 in
set_option maxHeartbeats 1000000 in
theorem adataContents_walk (f : Int) (nm : ByteArray) (v : Value) (ws : List Nat) (w : World) (hv : WS w w.heap.size v ws) (hle : ws.length ≤ 140737488351232) (hn : nm.size ≤ 140737488351232) (h16 : ∀ n ∈ ws, n < 65536) :
    Calls Try.prog 8 #[.int .i64 f, .string nm, v] w fun e w' => e = .returned (.bool true) ∧ Below w.heap.size w w' := by
  obtain ⟨A, c, rfl, _⟩ := id hv
  have HV := Lib.hid hv
  have HN := Lib.hid hn
  have H16 := Lib.hid h16
  clear hv hn h16
  go_enter Try.func8, Try.ntmps8
  go_wp2_with fail
  refine (livesA_any _).mono ?_
  rintro e w1 ⟨rfl, hb1⟩
  have HB1 := Lib.hid hb1
  have HV1 := Lib.hid (HV.out.on hb1)
  clear hb1 HV
  by_cases h100 : 100 < ws.length
  · have hd : decide ((100 : Int) < (ws.length : Int)) = true := decide_eq_true (by omega)
    clear h100
    go_wp2_with fail
    go_ret
    exact ⟨rfl, HB1.out⟩
  · have hd : decide ((100 : Int) < (ws.length : Int)) = false := decide_eq_false (by omega)
    have H100 := Lib.hid (show ws.length ≤ 100 by omega)
    have HO := Lib.hid (World.ownsRow_lit (base := w1.heap.size) (e := 47) (size := 1) w1 #[] 0 (Nat.le_refl _) (by simp [maxLen]) rfl)
    clear h100
    go_wp2_with (first
      | (at_builtin
         refine app_sl _ elW rfl (.tmp 19) (.tmp 20) rfl rfl HO.out rfl (HV1.out.on (al1 _ _)) (shs_one _) ?_ ?_ ?_
         (case refine_1 => have := H100.out; omega)
         (case refine_2 => simp)
         intro v2 w2 hown2 hg2 _ _
         have HB2 := Lib.hid (below_app (al1 _ _) HO.out hg2 (Nat.le_refl _) (by simp))
         have HO2 := Lib.hid (show OW w2 w1.heap.size v2 ws from shs_ow hown2 rfl)
         clear hown2 hg2))
    refine (abuild_any f nm ws v2 w2 (Sl.of_own HO2.out) (by have := H100.out; omega) HN.out H16.out).mono ?_
    rintro e w3 ⟨hb3, v3, rfl, h3⟩
    obtain ⟨A3, c3, rfl, _⟩ := id h3
    have HB3 := Lib.hid (bthen HB1.out (bthen HB2.out hb3))
    have HV3 := Lib.hid (HV1.out.on (bthen HB2.out hb3))
    have HR3 := Lib.hid h3
    have H5 := Lib.hid (bdE_five (f := f) (nm := nm.data.toList) (ws := ws))
    have HER := Lib.hid (fun h => bdR_err (f := f) (nm := nm.data.toList) (ws := ws) h)
    have HOK := Lib.hid (fun h => bd_contents (f := f) (nm := nm.data.toList) (ws := ws) H16.out h)
    clear hb3 h3 HB1 HB2 HV1 HO HO2
    generalize bdE f nm.data.toList ws = E at *
    generalize bdR f nm.data.toList ws = r at *
    by_cases hE : E = 0
    · subst hE
      obtain ⟨hf0, hf1, _, k1, k2, k3⟩ := HOK.out rfl
      have CF := Lib.hid (afind_any _ r 1 w3 HR3.out)
      unfold FindPost at CF
      rw [k1] at CF
      have CS := Lib.hid (fun W h => aserv_any (.slice A3 r.length c3) r W h)
      unfold ServPost at CS
      have CN := Lib.hid (fun W h => aname_any (.slice A3 r.length c3) r W h)
      unfold NamePost at CN
      rw [k3] at CS
      rw [show nameA r = nm.data.toList from k2, show (⟨nm.data.toList.toArray⟩ : ByteArray) = nm from rfl] at CN
      have hb : ((UInt8.ofNat f.toNat).toNat : Int) = f := by rw [UInt8.toNat_ofNat']; omega
      clear k1 k2 k3 H5 HER HOK
      go_wp2_with fail
      refine CF.out.mono ?_
      rintro e w4 ⟨hb4, v4, rfl, h4⟩
      have h4' : BS w4 w4.heap.size v4 [UInt8.ofNat f.toNat] := h4
      generalize UInt8.ofNat f.toNat = x at *
      obtain ⟨g, o, c4, rfl, hg, _, _, hcell⟩ := h4'.at_ (bys_at (l := [x]) (k := 0) (by simp))
      have HB4 := Lib.hid (bthen HB3.out hb4)
      have HV4 := Lib.hid (HV3.out.on hb4)
      have HR4 := Lib.hid (HR3.out.on hb4)
      simp only [Nat.add_zero, List.getElem_cons_zero] at hcell
      have hx : IntKind.i64.wrap (x.toNat : Int) = f := by rw [wri64 (by have := x.toNat_lt; omega)]; exact hb
      clear hb4 h4 h4' HB3 HV3 HR3 CF hb hf0 hf1
      go_wp2_with fail
      refine (CN.out w4 HR4.out).mono ?_
      rintro e w5 ⟨hb5, rfl⟩
      have HB5 := Lib.hid (bthen HB4.out hb5)
      have HV5 := Lib.hid (HV4.out.on hb5)
      have HR5 := Lib.hid (HR4.out.on hb5)
      clear hb5 HB4 HV4 HR4 CN
      go_wp2_with fail
      refine (CS.out w5 HR5.out).mono ?_
      rintro e w6 ⟨hb6, v6, rfl, h6⟩
      obtain ⟨A6, c6, rfl, _⟩ := id h6
      have HB6 := Lib.hid (bthen HB5.out hb6)
      have HV6 := Lib.hid (HV5.out.on hb6)
      have HS6 := Lib.hid h6
      clear hb6 h6 HB5 HV5 HR5 CS
      go_wp2_with fail
      refine (sameshort_any _ _ ws ws w6 HS6.out HV6.out (by have := H100.out; omega)).mono ?_
      rintro e w7 ⟨rfl, hb7⟩
      rw [decide_eq_true rfl]
      have HB7 := Lib.hid (bthen HB6.out hb7)
      clear hb7 HB6 HS6 HV6
      go_wp2
      go_ret
      exact ⟨rfl, HB7.out⟩
    · obtain rfl := HER.out hE
      have hE2 : (E == 0) = false := by simpa using hE
      have hE3 : (E != 0) = true := by simpa using hE
      by_cases hb : f < 0 ∨ 255 < f
      · obtain rfl := H5.out.2 hb
        by_cases hb0 : f < 0
        · have hd0 : decide (f < 0) = true := decide_eq_true hb0
          clear hb hb0 H5 HER HOK
          go_wp2_with fail
          go_ret
          exact ⟨rfl, HB3.out⟩
        · have hd0 : decide (f < 0) = false := decide_eq_false hb0
          have hd1 : decide (255 < f) = true := decide_eq_true (by omega)
          clear hb hb0 H5 HER HOK
          go_wp2_with fail
          go_ret
          exact ⟨rfl, HB3.out⟩
      · have hd0 : decide (f < 0) = false := decide_eq_false (by omega)
        have hd1 : decide (255 < f) = false := decide_eq_false (by omega)
        have h5 : (E == 5) = false := by
          have : E ≠ 5 := fun h => hb (H5.out.1 h)
          simpa using this
        clear hb H5 HER HOK hE
        go_wp2_with fail
        go_ret
        exact ⟨rfl, HB3.out⟩
end Go.Proofs.Ytncenlmfhnljgaa
