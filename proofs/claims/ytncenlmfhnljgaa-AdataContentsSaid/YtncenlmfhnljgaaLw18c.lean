/- The walks of the laws of adata: AdataBack. No condition but the reach of the form. -/
import Derived.Test.YtncenlmfhnljgaaLw18b
namespace Go.Proofs.Ytncenlmfhnljgaa
open Go.RowKit

set_option maxRecDepth 100000 in
set_option maxHeartbeats 1000000 in
theorem adataBack_walk (v u : Value) (es : List (Int × List UInt8)) (l : List UInt8) (w : World) (hv : ElsV w w.heap.size v es) (hle : es.length ≤ 140737488351232) (hsz : ∀ e ∈ es, e.2.length ≤ 140737488351232) (hu : BS w w.heap.size u l) (hl : l.length ≤ 140737488351232) :
    Calls Try.prog 7 #[v, u] w fun e w' => e = .returned (.bool true) ∧ Below w.heap.size w w' := by
  obtain ⟨A, c, rfl⟩ := hv.form
  obtain ⟨B, d, rfl, _⟩ := id hu
  have HV := Lib.hid hv
  have HU := Lib.hid hu
  have HSZ := Lib.hid hsz
  clear hv hsz hu
  go_enter Try.func7, Try.ntmps7
  go_wp2_with fail
  refine (livesA_any _).mono ?_
  rintro e w1 ⟨rfl, hb1⟩
  have HB1 := Lib.hid hb1
  have HV1 := Lib.hid (HV.out.on hb1)
  have HU1 := Lib.hid (HU.out.on hb1)
  clear hb1 HV HU
  by_cases h100 : 100 < es.length
  · have hd : decide ((100 : Int) < (es.length : Int)) = true := decide_eq_true (by omega)
    clear h100
    go_wp2_with fail
    go_ret
    exact ⟨rfl, HB1.out⟩
  · have hd : decide ((100 : Int) < (es.length : Int)) = false := decide_eq_false (by omega)
    have H100 := Lib.hid (show es.length ≤ 100 by omega)
    clear h100
    go_wp2_with fail
    refine (aown_any _ es w1 HV1.out H100.out (fun e he => by have := HSZ.out e he; omega)).mono ?_
    rintro e w2 ⟨hb2, v2, rfl, h2⟩
    obtain ⟨A2, c2, rfl⟩ := h2.form
    have HB2 := Lib.hid (bthen HB1.out hb2)
    have HV2 := Lib.hid (HV1.out.on hb2)
    have HU2 := Lib.hid (HU1.out.on hb2)
    have HO2 := Lib.hid h2
    clear hb2 h2 HB1 HV1 HU1
    go_wp2_with fail
    refine (aencode_any _ es w2 HO2.out (by have := H100.out; omega)).mono ?_
    rintro e w3 ⟨hb3, v3, rfl, h3⟩
    obtain ⟨A3, c3, rfl, _⟩ := id h3
    have HB3 := Lib.hid (bthen HB2.out hb3)
    have HV3 := Lib.hid (HV2.out.on hb3)
    have HU3 := Lib.hid (HU2.out.on hb3)
    have HR3 := Lib.hid h3
    have HBK := Lib.hid (fun h => ad_back (es := es) h)
    generalize encE es = E at *
    generalize encR es = r at *
    clear hb3 h3 HB2 HV2 HU2 HO2
    go_upto_if 25 with fail
    go_cut [] (fun wx => Below w.heap.size w wx ∧ Below w3.heap.size w3 wx)
    case first =>
      by_cases hE : E = 0
      · subst hE
        obtain ⟨hb0, hb1, hb2⟩ := HBK.out rfl
        have HLR := Lib.hid hb2
        have CD := Lib.hid (adecode_any _ r w3 HR3.out)
        unfold ADecPost at CD
        rw [hb0, hb1] at CD
        clear hb0 hb1 hb2
        go_wp2_with fail
        refine CD.out.mono ?_
        rintro e w4 ⟨hb4, v4, rfl, h4⟩
        obtain ⟨A4, c4, rfl⟩ := h4.form
        have HB4 := Lib.hid hb4
        have HV4 := Lib.hid (HV3.out.on hb4)
        have HD4 := Lib.hid h4
        clear hb4 h4 CD
        go_wp2_with fail
        refine (samel_any _ _ es es w4 HD4.out HV4.out (by have := H100.out; omega)).mono ?_
        rintro e w5 ⟨rfl, hb5⟩
        rw [decide_eq_true rfl]
        have HB5 := Lib.hid (bthen HB4.out hb5)
        have hdr : decide ((31 : Int) < (r.length : Int)) = false := decide_eq_false (by have := HLR.out; omega)
        clear hb5
        go_wp2
        go_meet
        exact ⟨bthen HB3.out HB5.out, HB5.out⟩
      · have hE2 : (E == 0) = false := by simpa using hE
        rw [hE2]
        go_wp2_with fail
        go_meet
        exact ⟨HB3.out, Below.refl _ _⟩
    case rest =>
      obtain ⟨hbc, hb3⟩ := hcut
      have HBC := Lib.hid hbc
      have HUC := Lib.hid (HU3.out.on hb3)
      have HFO := Lib.hid (fun h => ad_forth (l := l) h)
      have HBA := Lib.hid (fun h => adL_bad (l := l) h)
      have hL := adL_le l
      clear hbc hb3
      go_wp2_with fail
      refine (acopied_any _ l wc HUC.out (by omega)).mono ?_
      rintro e w6 ⟨hb6, v6, rfl, h6⟩
      obtain ⟨A6, c6, rfl⟩ := own_form h6
      have HB6 := Lib.hid (bthen HBC.out hb6)
      have HU6 := Lib.hid (HUC.out.on hb6)
      have HC6 := Lib.hid (BS.of_own rfl h6)
      clear hb6 h6 HBC HUC
      go_wp2_with fail
      refine (adecode_any _ l w6 HC6.out).mono ?_
      rintro e w7 ⟨hb7, v7, rfl, h7⟩
      obtain ⟨A7, c7, rfl⟩ := h7.form
      have HB7 := Lib.hid (bthen HB6.out hb7)
      have HU7 := Lib.hid (HU6.out.on hb7)
      have HD7 := Lib.hid h7
      clear hb7 h7 HB6 HU6 HC6
      generalize adE l = F at *
      generalize adL l = ls at *
      by_cases hF : F = 0
      · subst hF
        obtain ⟨k1, k2⟩ := HFO.out rfl
        have CE := Lib.hid (aencode_any _ ls w7 HD7.out (by omega))
        unfold AEncPost at CE
        rw [k1, k2] at CE
        clear k1 k2
        go_wp2_with fail
        refine CE.out.mono ?_
        rintro e w8 ⟨hb8, v8, rfl, h8⟩
        obtain ⟨A8, c8, rfl, _⟩ := id h8
        have HB8 := Lib.hid (bthen HB7.out hb8)
        have HU8 := Lib.hid (HU7.out.on hb8)
        have HR8 := Lib.hid h8
        clear hb8 h8 CE
        go_wp2_with fail
        refine (same_any _ _ l l w8 HR8.out HU8.out).mono ?_
        rintro e w9 ⟨rfl, rfl⟩
        rw [decide_eq_true rfl]
        go_wp2
        go_ret
        exact ⟨rfl, HB8.out⟩
      · obtain rfl := HBA.out hF
        have hF2 : (F == 0) = false := by simpa using hF
        have hF3 : (F != 0) = true := by simpa using hF
        go_wp2_with fail
        go_ret
        exact ⟨rfl, HB7.out⟩
end Go.Proofs.Ytncenlmfhnljgaa
