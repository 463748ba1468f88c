/- The walks of the laws of adata: AdataEncodes, AdataDecodes, AdataFinds. No condition but the reach of the form. -/
import Derived.Test.YtncenlmfhnljgaaAd17
namespace Go.Proofs.Ytncenlmfhnljgaa
open Go.RowKit

theorem servA_len : ∀ es : List (Int × List UInt8), (∀ e ∈ es, e.2.length ≤ 255) → (servA es).length ≤ 255 * es.length := by
  intro es
  induction es with
  | nil => intro _; simp [servA]
  | cons e r ih =>
    intro h
    have h1 := ih fun x hx => h x (List.mem_cons_of_mem _ hx)
    have h2 := h e (List.mem_cons_self ..)
    have h3 := sh2_len _ e.2 (Nat.le_refl _)
    have e1 : servA (e :: r) = serv1 e ++ servA r := rfl
    rw [e1, List.length_append, List.length_cons]
    have h4 : (serv1 e).length ≤ 255 := by
      unfold serv1
      split
      · omega
      · simp
    omega
theorem servA_adL (l : List UInt8) : (servA (adL l)).length ≤ 1099511627776 := by
  have h1 := servA_len _ (adL_val l)
  have h2 := adL_le l
  omega

set_option maxRecDepth 100000 in
set_option maxHeartbeats 1000000 in
theorem adataEncodes_walk (v : Value) (es : List (Int × List UInt8)) (w : World) (hv : ElsV w w.heap.size v es) (hle : es.length ≤ 140737488351232) (hsz : ∀ e ∈ es, e.2.length ≤ 140737488351232) :
    Calls Try.prog 3 #[v] w fun e w' => e = .returned (.bool true) ∧ Below w.heap.size w w' := by
  obtain ⟨A, c, rfl⟩ := hv.form
  have HV := Lib.hid hv
  have HSZ := Lib.hid hsz
  clear hv hsz
  go_enter Try.func3, Try.ntmps3
  go_wp2_with fail
  refine (livesA_any _).mono ?_
  rintro e w1 ⟨rfl, hb1⟩
  have HB1 := Lib.hid hb1
  have HV1 := Lib.hid (HV.out.on hb1)
  clear hb1 HV
  by_cases h100 : 100 < es.length
  · have hd : decide ((100 : Int) < (es.length : Int)) = true := decide_eq_true (by omega)
    clear h100
    go_wp2_with fail
    go_ret
    exact ⟨rfl, HB1.out⟩
  · have hd : decide ((100 : Int) < (es.length : Int)) = false := decide_eq_false (by omega)
    have H100 := Lib.hid (show es.length ≤ 100 by omega)
    clear h100
    go_wp2_with fail
    refine (aown_any _ es w1 HV1.out H100.out (fun e he => by have := HSZ.out e he; omega)).mono ?_
    rintro e w2 ⟨hb2, v2, rfl, h2⟩
    obtain ⟨A2, c2, rfl⟩ := h2.form
    have HB2 := Lib.hid (bthen HB1.out hb2)
    have HV2 := Lib.hid (HV1.out.on hb2)
    have HO2 := Lib.hid h2
    clear hb2 h2 HB1 HV1
    go_wp2_with fail
    refine (aencode_any _ es w2 HO2.out (by have := H100.out; omega)).mono ?_
    rintro e w3 ⟨hb3, v3, rfl, h3⟩
    obtain ⟨A3, c3, rfl, _⟩ := id h3
    have HB3 := Lib.hid (bthen HB2.out hb3)
    have HV3 := Lib.hid (HV2.out.on hb3)
    have HR3 := Lib.hid h3
    clear hb3 h3 HB2 HV2 HO2
    go_wp2_with fail
    refine (raencode_any _ es w3 HV3.out (by have := H100.out; omega)).mono ?_
    rintro e w4 ⟨hb4, v4, rfl, h4⟩
    obtain ⟨A4, c4, rfl, _⟩ := id h4
    have HB4 := Lib.hid (bthen HB3.out hb4)
    have HR4 := Lib.hid (HR3.out.on hb4)
    have HQ4 := Lib.hid h4
    clear hb4 h4 HB3 HV3 HR3
    go_wp2_with fail
    refine (same_any _ _ _ _ w4 HR4.out HQ4.out).mono ?_
    rintro e w5 ⟨rfl, rfl⟩
    rw [decide_eq_true rfl]
    go_wp2
    go_ret
    exact ⟨rfl, HB4.out⟩

set_option maxRecDepth 100000 in
set_option maxHeartbeats 1000000 in
theorem adataDecodes_walk (v : Value) (l : List UInt8) (w : World) (hv : BS w w.heap.size v l) (hle : l.length ≤ 140737488351232) :
    Calls Try.prog 4 #[v] w fun e w' => e = .returned (.bool true) ∧ Below w.heap.size w w' := by
  obtain ⟨A, c, rfl, _⟩ := id hv
  have HV := Lib.hid hv
  have hL := adL_le l
  clear hv
  go_enter Try.func4, Try.ntmps4
  go_wp2_with fail
  refine (acopied_any _ l w HV.out (by omega)).mono ?_
  rintro e w1 ⟨hb1, v1, rfl, h1⟩
  obtain ⟨A1, c1, rfl⟩ := own_form h1
  have HB1 := Lib.hid hb1
  have HV1 := Lib.hid (HV.out.on hb1)
  have HC1 := Lib.hid (BS.of_own rfl h1)
  clear hb1 h1 HV
  go_wp2_with fail
  refine (adecode_any _ l w1 HC1.out).mono ?_
  rintro e w2 ⟨hb2, v2, rfl, h2⟩
  obtain ⟨A2, c2, rfl⟩ := h2.form
  have HB2 := Lib.hid (bthen HB1.out hb2)
  have HV2 := Lib.hid (HV1.out.on hb2)
  have HD2 := Lib.hid h2
  clear hb2 h2 HB1 HV1 HC1
  go_wp2_with fail
  refine (radecode_any _ l w2 HV2.out).mono ?_
  rintro e w3 ⟨hb3, v3, rfl, h3⟩
  obtain ⟨A3, c3, rfl⟩ := h3.form
  have HB3 := Lib.hid (bthen HB2.out hb3)
  have HD3 := Lib.hid (HD2.out.on hb3)
  have HR3 := Lib.hid h3
  clear hb3 h3 HB2 HV2 HD2
  go_wp2_with fail
  refine (livesA_any _).mono ?_
  rintro e w4 ⟨rfl, hb4⟩
  have HB4 := Lib.hid (bthen HB3.out hb4)
  have HD4 := Lib.hid (HD3.out.on hb4)
  have HR4 := Lib.hid (HR3.out.on hb4)
  clear hb4 HB3 HD3 HR3
  go_wp2_with fail
  refine (samel_any _ _ _ _ w4 HD4.out HR4.out (by omega)).mono ?_
  rintro e w5 ⟨rfl, hb5⟩
  rw [decide_eq_true rfl]
  have HB5 := Lib.hid (bthen HB4.out hb5)
  clear hb5 HB4 HD4 HR4
  go_wp2
  go_ret
  exact ⟨rfl, HB5.out⟩

set_option maxRecDepth 100000 in
set_option maxHeartbeats 1000000 in
theorem adataFinds_walk (v : Value) (l : List UInt8) (k : Int) (w : World) (hv : BS w w.heap.size v l) (hle : l.length ≤ 140737488351232) :
    Calls Try.prog 5 #[v, .int .i64 k] w fun e w' => e = .returned (.bool true) ∧ Below w.heap.size w w' := by
  obtain ⟨A, c, rfl, _⟩ := id hv
  have HV := Lib.hid hv
  have hS : (servA (adL l)).length ≤ 1099511627776 := servA_adL l
  clear hv
  go_enter Try.func5, Try.ntmps5
  go_wp2_with fail
  refine (acopied_any _ l w HV.out (by omega)).mono ?_
  rintro e w1 ⟨hb1, v1, rfl, h1⟩
  obtain ⟨A1, c1, rfl⟩ := own_form h1
  have HB1 := Lib.hid hb1
  have HV1 := Lib.hid (HV.out.on hb1)
  have HC1 := Lib.hid (BS.of_own rfl h1)
  clear hb1 h1 HV
  go_wp2_with fail
  refine (afind_any _ l k w1 HC1.out).mono ?_
  rintro e w2 ⟨hb2, v2, rfl, h2⟩
  obtain ⟨A2, c2, rfl, _⟩ := id h2
  have HB2 := Lib.hid (bthen HB1.out hb2)
  have HV2 := Lib.hid (HV1.out.on hb2)
  have HD2 := Lib.hid h2
  clear hb2 h2 HB1 HV1 HC1
  go_wp2_with fail
  refine (rafind_any _ l k w2 HV2.out).mono ?_
  rintro e w3 ⟨hb3, v3, rfl, h3⟩
  obtain ⟨A3, c3, rfl, _⟩ := id h3
  have HB3 := Lib.hid (bthen HB2.out hb3)
  have HV3 := Lib.hid (HV2.out.on hb3)
  have HD3 := Lib.hid (HD2.out.on hb3)
  have HR3 := Lib.hid h3
  clear hb3 h3 HB2 HV2 HD2
  go_wp2_with fail
  refine (livesA_any _).mono ?_
  rintro e w4 ⟨rfl, hb4⟩
  have HB4 := Lib.hid (bthen HB3.out hb4)
  have HV4 := Lib.hid (HV3.out.on hb4)
  have HD4 := Lib.hid (HD3.out.on hb4)
  have HR4 := Lib.hid (HR3.out.on hb4)
  clear hb4 HB3 HV3 HD3 HR3
  go_wp2_with fail
  refine (same_any _ _ _ _ w4 HD4.out HR4.out).mono ?_
  rintro e w5 ⟨rfl, rfl⟩
  rw [decide_eq_true rfl]
  clear HD4 HR4
  go_wp2_with fail
  refine (acopied_any _ l w4 HV4.out (by omega)).mono ?_
  rintro e w5 ⟨hb5, v5, rfl, h5⟩
  obtain ⟨A5, c5, rfl⟩ := own_form h5
  have HB5 := Lib.hid (bthen HB4.out hb5)
  have HV5 := Lib.hid (HV4.out.on hb5)
  have HC5 := Lib.hid (BS.of_own rfl h5)
  clear hb5 h5 HB4 HV4
  go_wp2_with fail
  refine (aname_any _ l w5 HC5.out).mono ?_
  rintro e w6 ⟨hb6, rfl⟩
  have HB6 := Lib.hid (bthen HB5.out hb6)
  have HV6 := Lib.hid (HV5.out.on hb6)
  clear hb6 HB5 HV5 HC5
  go_wp2_with fail
  refine (raname_any _ l w6 HV6.out).mono ?_
  rintro e w7 ⟨hb7, rfl⟩
  have HB7 := Lib.hid (bthen HB6.out hb7)
  have HV7 := Lib.hid (HV6.out.on hb7)
  clear hb7 HB6 HV6
  go_wp2_with fail
  refine (acopied_any _ l w7 HV7.out (by omega)).mono ?_
  rintro e w8 ⟨hb8, v8, rfl, h8⟩
  obtain ⟨A8, c8, rfl⟩ := own_form h8
  have HB8 := Lib.hid (bthen HB7.out hb8)
  have HV8 := Lib.hid (HV7.out.on hb8)
  have HC8 := Lib.hid (BS.of_own rfl h8)
  clear hb8 h8 HB7 HV7
  go_wp2_with fail
  refine (aserv_any _ l w8 HC8.out).mono ?_
  rintro e w9 ⟨hb9, v9, rfl, h9⟩
  obtain ⟨A9, c9, rfl, _⟩ := id h9
  have HB9 := Lib.hid (bthen HB8.out hb9)
  have HV9 := Lib.hid (HV8.out.on hb9)
  have HS9 := Lib.hid h9
  clear hb9 h9 HB8 HV8 HC8
  go_wp2_with fail
  refine (raserv_any _ l w9 HV9.out).mono ?_
  rintro e w10 ⟨hb10, v10, rfl, h10⟩
  obtain ⟨A10, c10, rfl, _⟩ := id h10
  have HB10 := Lib.hid (bthen HB9.out hb10)
  have HS10 := Lib.hid (HS9.out.on hb10)
  have HR10 := Lib.hid h10
  clear hb10 h10 HB9 HV9 HS9
  go_wp2_with fail
  refine (sameshort_any _ _ _ _ w10 HS10.out HR10.out hS).mono ?_
  rintro e w11 ⟨rfl, hb11⟩
  rw [decide_eq_true rfl]
  have HB11 := Lib.hid (bthen HB10.out hb11)
  clear hb11 HB10 HS10 HR10
  go_wp2
  go_ret
  exact ⟨rfl, HB11.out⟩
end Go.Proofs.Ytncenlmfhnljgaa
