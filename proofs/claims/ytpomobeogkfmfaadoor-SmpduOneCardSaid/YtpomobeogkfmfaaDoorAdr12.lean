/- Walks of package address: Parse. -/
import Derived.Test.YtpomobeogkfmfaaDoorAdr11
namespace Go.Proofs.YtpomobeogkfmfaaDoor
open Go.RowKit

def dB (c : Nat) : Bool := decide (nibU c < 16)
def dV (c : Nat) : Nat := if nibU c < 16 then nibU c else 0
theorem digit_any (c : Nat) (w : World) : Calls Tryd.prog 45 #[.int .u8 (c : Int)] w fun e w' => e = .returned (.tuple #[.int .u64 (dV c : Nat), .bool (dB c)]) ∧ w = w' := by
  by_cases h : nibU c < 16
  · have e1 : dV c = nibU c := by unfold dV; rw [if_pos h]
    have e2 : dB c = true := by unfold dB; rw [decide_eq_true h]
    rw [e1, e2]
    exact digit_yes c h w
  · have e1 : dV c = 0 := by unfold dV; rw [if_neg h]
    have e2 : dB c = false := by unfold dB; rw [decide_eq_false h]
    rw [e1, e2]
    exact digit_no c h w

theorem kindTo_yes (c k : Nat) (h : k ≠ 0 ∧ letN k = c) : kindTo c (k + 1) = k := by unfold kindTo; rw [if_pos h]
theorem kindTo_no (c k : Nat) (h : ¬ (k ≠ 0 ∧ letN k = c)) : kindTo c (k + 1) = kindTo c k := by
  conv => lhs; unfold kindTo
  rw [if_neg h]

set_option maxRecDepth 100000 in
set_option maxHeartbeats 2000000 in
theorem parse_len (s : ByteArray) (w : World) (hl : s.size ≠ 19) : Calls Tryd.prog 23 #[.string s] w (ParsePost w s.data.toList) := by
  have hne : ((s.size : Int) != 19) = true := ne_bool (by omega)
  have HL := Lib.hid hl
  clear hl
  go_enter Tryd.func23, Tryd.ntmps23
  go_wp2_with fail
  refine bodyPost_ret (v := .tuple #[adr 0 0, .int .i64 2]) (by simp [results, Tryd.results23, go_sem]) rfl ?_
  exact parsePost_bad (fun h => HL.out (by simpa using h.1)) rfl (al1 _ _)

set_option maxRecDepth 100000 in
set_option maxHeartbeats 2000000 in
theorem parse_19 (s : ByteArray) (w : World) (hl : s.size = 19) (hT : ATab w) : Calls Tryd.prog 23 #[.string s] w (ParsePost w s.data.toList) := by
  have hlen : s.data.toList.length = 19 := by simpa using hl
  have hne : ((s.size : Int) != 19) = false := eq_bool (by omega)
  have HL := Lib.hid hl
  have HLEN := Lib.hid hlen
  have HT := Lib.hid hT
  clear hl hlen hT
  go_enter Tryd.func23, Tryd.ntmps23
  go_wp2_with fail
  go_loopw [5] (fun i wr => ∃ j : Nat, j ≤ 6 ∧ i = .int .i64 ((3 * j : Nat) : Int) ∧ (∀ i, i < j → grpOk s.data.toList i = true) ∧
    wr = (w.alloc (.cells #[.int .i64 0, .int .u64 0] 24)).alloc (.cells #[.int .i64 0, .int .u64 (bitsP s.data.toList j : Nat)] 24)) (fun i _ => 19 - (intOf i).toNat)
  case atStart => exact ⟨0, by omega, rfl, fun i hi => absurd hi (by omega), rfl⟩
  case round =>
    obtain ⟨j, hj, rfl, hall, rfl⟩ := hrel
    have hbl := bitsP_lt s.data.toList j hall
    have hpow : 256 ^ j ≤ 256 ^ 6 := Nat.pow_le_pow_right (by omega) hj
    have HA := Lib.hid hall
    have hsz := HL.out
    by_cases hlt : j < 6
    · have hpow5 : 256 ^ j ≤ 256 ^ 5 := Nat.pow_le_pow_right (by omega) (by omega)
      obtain ⟨i, hi⟩ : ∃ i : Nat, i = 3 * j := ⟨_, rfl⟩
      have HI := Lib.hid hi
      have hi15 : i ≤ 15 := by omega
      have b0 : i < s.size := by omega
      have b1 : i + 1 < s.size := by omega
      have b2 : i + 2 < s.size := by omega
      have hbits : bitsP s.data.toList j < 1099511627776 := Nat.lt_of_lt_of_le hbl hpow5
      rw [← hi]
      clear hall hbl hpow hpow5 hsz hi
      generalize hbd : bitsP s.data.toList j = bb at *
      have HBD := Lib.hid hbd
      clear hbd
      have hg : grpOk s.data.toList j = (dB s[i].toNat && dB s[i + 1].toNat && (s[i + 2].toNat == sepC j)) := by
        unfold grpOk dB
        rw [lat_of b0, lat_of b1, lat_of b2, HI.out]
        rw [Bool.eq_iff_iff]
        simp only [decide_eq_true_eq, Bool.and_eq_true, beq_iff_eq]
        exact ⟨fun ⟨a, b, c⟩ => ⟨⟨a, b⟩, c⟩, fun ⟨⟨a, b⟩, c⟩ => ⟨a, b, c⟩⟩
      have HG := Lib.hid hg
      have C0 := digit_any s[i].toNat
      have C1 := digit_any s[i + 1].toNat
      have HV : dB s[i].toNat = true → dB s[i + 1].toNat = true → bitsP s.data.toList (j + 1) = bb * 256 + 16 * dV s[i].toNat + dV s[i + 1].toNat ∧ dV s[i].toNat < 16 ∧ dV s[i + 1].toNat < 16 := by
        intro h1 h2
        unfold dB at h1 h2
        have h1 := of_decide_eq_true h1
        have h2 := of_decide_eq_true h2
        unfold dV
        rw [if_pos h1, if_pos h2]
        refine ⟨?_, h1, h2⟩
        show bitsP s.data.toList j * 256 + 16 * nibU (lat s.data.toList (3 * j)) + nibU (lat s.data.toList (3 * j + 1)) = _
        rw [HBD.out, lat_of b0, lat_of b1, HI.out]
      clear hg
      generalize hp0 : dB s[i].toNat = p0 at *
      generalize hp1 : dB s[i + 1].toNat = p1 at *
      generalize hv0 : dV s[i].toNat = v0 at *
      generalize hv1 : dV s[i + 1].toNat = v1 at *
      have CC := Lib.hid (And.intro C0 C1)
      have HVV := Lib.hid HV
      clear C0 C1 HV hp0 hp1 hv0 hv1
      by_cases h5 : j = 5
      · subst h5
        obtain rfl : i = 15 := HI.out
        go_wp2_with fail
        refine (CC.out.1 _).mono ?_
        rintro e w1 ⟨rfl, rfl⟩
        go_wp2_with fail
        refine (CC.out.2 _).mono ?_
        rintro e w1 ⟨rfl, rfl⟩
        rcases p0 with _ | _
        · clear HVV
          go_wp2_with fail
          refine bodyPost_ret (v := .tuple #[adr 0 0, .int .i64 2]) (by simp [results, Tryd.results23, go_sem]) rfl ?_
          refine parsePost_bad (fun h => ?_) rfl (al2 _ _ _)
          have h1 := allOk_no hlt (HG.out.trans (by simp))
          rw [h1] at h
          exact absurd h.2.1 (by decide)
        · rcases p1 with _ | _
          · clear HVV
            go_wp2_with fail
            refine bodyPost_ret (v := .tuple #[adr 0 0, .int .i64 2]) (by simp [results, Tryd.results23, go_sem]) rfl ?_
            refine parsePost_bad (fun h => ?_) rfl (al2 _ _ _)
            have h1 := allOk_no hlt (HG.out.trans (by simp))
            rw [h1] at h
            exact absurd h.2.1 (by decide)
          · obtain ⟨hb1, hv0, hv1⟩ := HVV.out rfl rfl
            have HB1 := Lib.hid hb1
            clear hb1 HVV
            by_cases hs : s[15 + 2].toNat = 47
            · have hs' : ((s[15 + 2].toNat : Int) != 47) = false := eq_bool (by omega)
              have HS := Lib.hid hs
              clear hs
              go_wp2_with fail
              go_roundw
              case rel =>
                refine ⟨5 + 1, by omega, int_ext (by rfl), fun i' hi' => ?_, by rw [or_group bb v0 v1 hbits hv0 hv1, HB1.out]⟩
                rcases Nat.lt_or_ge i' 5 with h | h
                · exact HA.out i' h
                · obtain rfl : i' = 5 := by omega
                  refine HG.out.trans ?_
                  rw [HS.out]
                  rfl
              case measure => simp [intOf]; skip
            · have hs' : ((s[15 + 2].toNat : Int) != 47) = true := ne_bool (by omega)
              have HS := Lib.hid hs
              clear hs
              go_wp2_with fail
              refine bodyPost_ret (v := .tuple #[adr 0 0, .int .i64 2]) (by simp [results, Tryd.results23, go_sem]) rfl ?_
              refine parsePost_bad (fun h => ?_) rfl (al2 _ _ _)
              have h1 := allOk_no hlt (HG.out.trans (by
                have h2 : (s[15 + 2].toNat == sepC 5) = false := by simpa [sepC] using HS.out
                rw [h2]; rfl))
              rw [h1] at h
              exact absurd h.2.1 (by decide)
      · have hi5 : i < 15 := by have := HI.out; omega
        have f18 : ((i : Int) + 3 == 18) = false := neq_bool (by omega)
        go_wp2_with fail
        refine (CC.out.1 _).mono ?_
        rintro e w1 ⟨rfl, rfl⟩
        go_wp2_with fail
        refine (CC.out.2 _).mono ?_
        rintro e w1 ⟨rfl, rfl⟩
        rcases p0 with _ | _
        · clear HVV
          go_wp2_with fail
          refine bodyPost_ret (v := .tuple #[adr 0 0, .int .i64 2]) (by simp [results, Tryd.results23, go_sem]) rfl ?_
          refine parsePost_bad (fun h => ?_) rfl (al2 _ _ _)
          have h1 := allOk_no hlt (HG.out.trans (by simp))
          rw [h1] at h
          exact absurd h.2.1 (by decide)
        · rcases p1 with _ | _
          · clear HVV
            go_wp2_with fail
            refine bodyPost_ret (v := .tuple #[adr 0 0, .int .i64 2]) (by simp [results, Tryd.results23, go_sem]) rfl ?_
            refine parsePost_bad (fun h => ?_) rfl (al2 _ _ _)
            have h1 := allOk_no hlt (HG.out.trans (by simp))
            rw [h1] at h
            exact absurd h.2.1 (by decide)
          · obtain ⟨hb1, hv0, hv1⟩ := HVV.out rfl rfl
            have HB1 := Lib.hid hb1
            clear hb1 HVV
            by_cases hs : s[i + 2].toNat = 58
            · have hs' : ((s[i + 2].toNat : Int) != 58) = false := eq_bool (by omega)
              have HS := Lib.hid hs
              clear hs
              go_wp2_with fail
              go_roundw
              case rel =>
                refine ⟨j + 1, by omega, int_ext (by have := HI.out; omega), fun i' hi' => ?_, by rw [or_group bb v0 v1 hbits hv0 hv1, HB1.out]⟩
                rcases Nat.lt_or_ge i' j with h | h
                · exact HA.out i' h
                · obtain rfl : i' = j := by omega
                  refine HG.out.trans ?_
                  rw [HS.out]
                  unfold sepC; rw [if_neg h5]; rfl
              case measure => simp [intOf]; omega
            · have hs' : ((s[i + 2].toNat : Int) != 58) = true := ne_bool (by omega)
              have HS := Lib.hid hs
              clear hs
              go_wp2_with fail
              refine bodyPost_ret (v := .tuple #[adr 0 0, .int .i64 2]) (by simp [results, Tryd.results23, go_sem]) rfl ?_
              refine parsePost_bad (fun h => ?_) rfl (al2 _ _ _)
              have h1 := allOk_no hlt (HG.out.trans (by
                have h2 : (s[i + 2].toNat == sepC j) = false := by simpa [sepC, h5] using HS.out
                rw [h2]; rfl))
              rw [h1] at h
              exact absurd h.2.1 (by decide)
    · obtain rfl : j = 6 := by omega
      have HOK := Lib.hid (allOk_yes hall)
      have hbl' : bitsP s.data.toList 6 < 281474976710656 := hbl
      have b18 : 18 < s.size := by omega
      clear hall hbl hpow
      generalize hbd : bitsP s.data.toList 6 = bb at *
      have HBD := Lib.hid hbd
      have hT2 : ATab ((w.alloc (.cells #[.int .i64 0, .int .u64 0] 24)).alloc (.cells #[.int .i64 0, .int .u64 (bb : Nat)] 24)) := HT.out.keep (al2 w _ _)
      have t0 : ((w.alloc (.cells #[.int .i64 0, .int .u64 0] 24)).alloc (.cells #[.int .i64 0, .int .u64 (bb : Nat)] 24)).cell? ⟨1, 0, none⟩ = some (.int .u8 0) := (hT2.2 0 (by omega)).2
      have t1 : ((w.alloc (.cells #[.int .i64 0, .int .u64 0] 24)).alloc (.cells #[.int .i64 0, .int .u64 (bb : Nat)] 24)).cell? ⟨1, 1, none⟩ = some (.int .u8 112) := (hT2.2 1 (by omega)).2
      have t2 : ((w.alloc (.cells #[.int .i64 0, .int .u64 0] 24)).alloc (.cells #[.int .i64 0, .int .u64 (bb : Nat)] 24)).cell? ⟨1, 2, none⟩ = some (.int .u8 115) := (hT2.2 2 (by omega)).2
      have t3 : ((w.alloc (.cells #[.int .i64 0, .int .u64 0] 24)).alloc (.cells #[.int .i64 0, .int .u64 (bb : Nat)] 24)).cell? ⟨1, 3, none⟩ = some (.int .u8 114) := (hT2.2 3 (by omega)).2
      have t4 : ((w.alloc (.cells #[.int .i64 0, .int .u64 0] 24)).alloc (.cells #[.int .i64 0, .int .u64 (bb : Nat)] 24)).cell? ⟨1, 4, none⟩ = some (.int .u8 97) := (hT2.2 4 (by omega)).2
      clear hT2 hbd
      go_wp2_with fail
      clear t0 t1 t2 t3 t4
      have HLC := Lib.hid (lat_of b18)
      go_loopw [66] (fun i wr => ∃ k : Nat, k ≤ 5 ∧ i = .int .i64 (k : Int) ∧
        wr = (w.alloc (.cells #[.int .i64 0, .int .u64 0] 24)).alloc (.cells #[.int .i64 (kindTo s[18].toNat k), .int .u64 (bb : Nat)] 24)) (fun i _ => 5 - (intOf i).toNat)
      case atStart => exact ⟨0, by omega, rfl, rfl⟩
      case round =>
        obtain ⟨k, hk, rfl, rfl⟩ := hrel
        by_cases hlt : k < 5
        · obtain rfl | rfl | rfl | rfl | rfl : k = 0 ∨ k = 1 ∨ k = 2 ∨ k = 3 ∨ k = 4 := by omega
          · have i0 : ∀ w, (Instr.index 66 (.agg #[.int .u8 0, .int .u8 112, .int .u8 115, .int .u8 114, .int .u8 97]) (.int .i64 0)).run Tryd.prog w = .ok (.int .u8 0) w := fun _ => by kernel_rfl
            go_wp2_with fail
            go_roundw
            case rel => exact ⟨1, by omega, rfl, by rw [kindTo_no s[18].toNat 0 (fun h => h.1 rfl)]⟩
            case measure => simp [intOf]
          · have i1 : ∀ w, (Instr.index 66 (.agg #[.int .u8 0, .int .u8 112, .int .u8 115, .int .u8 114, .int .u8 97]) (.int .i64 1)).run Tryd.prog w = .ok (.int .u8 112) w := fun _ => by kernel_rfl
            by_cases hc : s[18].toNat = 112
            · have hc' : ((112 : Int) == (s[18].toNat : Int)) = true := eqq_bool (by omega)
              have HC := Lib.hid hc
              clear hc
              go_wp2_with fail
              go_roundw
              case rel => exact ⟨2, by omega, rfl, by rw [kindTo_yes s[18].toNat 1 ⟨by decide, HC.out.symm⟩]; rfl⟩
              case measure => simp [intOf]
            · have hc' : ((112 : Int) == (s[18].toNat : Int)) = false := neq_bool (by omega)
              have HC := Lib.hid hc
              clear hc
              go_wp2_with fail
              go_roundw
              case rel => exact ⟨2, by omega, rfl, by rw [kindTo_no s[18].toNat 1 (fun h => HC.out h.2.symm)]⟩
              case measure => simp [intOf]
          · have i2 : ∀ w, (Instr.index 66 (.agg #[.int .u8 0, .int .u8 112, .int .u8 115, .int .u8 114, .int .u8 97]) (.int .i64 2)).run Tryd.prog w = .ok (.int .u8 115) w := fun _ => by kernel_rfl
            by_cases hc : s[18].toNat = 115
            · have hc' : ((115 : Int) == (s[18].toNat : Int)) = true := eqq_bool (by omega)
              have HC := Lib.hid hc
              clear hc
              go_wp2_with fail
              go_roundw
              case rel => exact ⟨3, by omega, rfl, by rw [kindTo_yes s[18].toNat 2 ⟨by decide, HC.out.symm⟩]; rfl⟩
              case measure => simp [intOf]
            · have hc' : ((115 : Int) == (s[18].toNat : Int)) = false := neq_bool (by omega)
              have HC := Lib.hid hc
              clear hc
              go_wp2_with fail
              go_roundw
              case rel => exact ⟨3, by omega, rfl, by rw [kindTo_no s[18].toNat 2 (fun h => HC.out h.2.symm)]⟩
              case measure => simp [intOf]
          · have i3 : ∀ w, (Instr.index 66 (.agg #[.int .u8 0, .int .u8 112, .int .u8 115, .int .u8 114, .int .u8 97]) (.int .i64 3)).run Tryd.prog w = .ok (.int .u8 114) w := fun _ => by kernel_rfl
            by_cases hc : s[18].toNat = 114
            · have hc' : ((114 : Int) == (s[18].toNat : Int)) = true := eqq_bool (by omega)
              have HC := Lib.hid hc
              clear hc
              go_wp2_with fail
              go_roundw
              case rel => exact ⟨4, by omega, rfl, by rw [kindTo_yes s[18].toNat 3 ⟨by decide, HC.out.symm⟩]; rfl⟩
              case measure => simp [intOf]
            · have hc' : ((114 : Int) == (s[18].toNat : Int)) = false := neq_bool (by omega)
              have HC := Lib.hid hc
              clear hc
              go_wp2_with fail
              go_roundw
              case rel => exact ⟨4, by omega, rfl, by rw [kindTo_no s[18].toNat 3 (fun h => HC.out h.2.symm)]⟩
              case measure => simp [intOf]
          · have i4 : ∀ w, (Instr.index 66 (.agg #[.int .u8 0, .int .u8 112, .int .u8 115, .int .u8 114, .int .u8 97]) (.int .i64 4)).run Tryd.prog w = .ok (.int .u8 97) w := fun _ => by kernel_rfl
            by_cases hc : s[18].toNat = 97
            · have hc' : ((97 : Int) == (s[18].toNat : Int)) = true := eqq_bool (by omega)
              have HC := Lib.hid hc
              clear hc
              go_wp2_with fail
              go_roundw
              case rel => exact ⟨5, by omega, rfl, by rw [kindTo_yes s[18].toNat 4 ⟨by decide, HC.out.symm⟩]; rfl⟩
              case measure => simp [intOf]
            · have hc' : ((97 : Int) == (s[18].toNat : Int)) = false := neq_bool (by omega)
              have HC := Lib.hid hc
              clear hc
              go_wp2_with fail
              go_roundw
              case rel => exact ⟨5, by omega, rfl, by rw [kindTo_no s[18].toNat 4 (fun h => HC.out h.2.symm)]⟩
              case measure => simp [intOf]
        · obtain rfl : k = 5 := by omega
          have hk5 := kindTo_5 s[18].toNat
          rw [hk5]
          clear hk5
          have hlc := HLC.out
          generalize hkd : kindC s[18].toNat = kk at *
          have HKD := Lib.hid (show kindC (lat s.data.toList 18) = kk by rw [← hlc]; exact hkd)
          clear hkd hlc
          by_cases h0 : kk = 0
          · subst h0
            go_wp2_with fail
            refine bodyPost_ret (v := .tuple #[adr 0 0, .int .i64 2]) (by simp [results, Tryd.results23, go_sem]) rfl ?_
            exact parsePost_bad (fun h => h.2.2 HKD.out) rfl (al2 _ _ _)
          · have h0' : (kk == 0) = false := neq_bool h0
            have HALL := Lib.hid (show s.data.toList.length = 19 ∧ allOk s.data.toList = true ∧ kindC (lat s.data.toList 18) ≠ 0 from ⟨HLEN.out, HOK.out, by rw [HKD.out]; exact h0⟩)
            clear h0
            go_wp2_with fail
            refine (check_any kk bb _ (HT.out.keep (al2 w _ _))).mono ?_
            rintro e w1 ⟨rfl, hb1⟩
            have hB := Lib.hid (two hb1)
            obtain ⟨hcl, hfr⟩ := bcell hb1
            have hz := sz2 hb1
            obtain ⟨hz1, hz2⟩ := hz
            have q0 : w1.cell? ⟨w.heap.size, 0, none⟩ = some (.int .i64 0) := by
              rw [hcl w.heap.size 0 (by simp; omega)]
              simp [go_sem]
            have q1 : w1.cell? ⟨w.heap.size, 1, none⟩ = some (.int .u64 0) := by
              rw [hcl w.heap.size 1 (by simp; omega)]
              simp [go_sem]
            by_cases hc : chkA kk bb = 0
            · have HC := Lib.hid hc
              rw [hc]
              clear hc
              go_wp2_with fail
              refine bodyPost_ret (v := .tuple #[adr kk bb, .int .i64 0]) (by simp [results, Tryd.results23, go_sem, q0, q1]) rfl ?_
              exact parsePost_ok HALL.out (by rw [HKD.out, HBD.out]; exact HC.out) (by rw [HKD.out, HBD.out]) ((hB.out.setCell (Nat.le_refl _) _).setCell (Nat.le_refl _) _)
            · have hc' := ne_bool hc
              have HC := Lib.hid hc
              clear hc
              generalize hcd : chkA kk bb = cc at *
              have HCD := Lib.hid hcd
              clear hcd
              go_wp2_with fail
              refine bodyPost_ret (v := .tuple #[adr 0 0, .int .i64 cc]) (by simp [results, Tryd.results23, go_sem, q0, q1]) rfl ?_
              exact parsePost_chk HALL.out (by rw [HKD.out, HBD.out, HCD.out]; exact HC.out) (by rw [HKD.out, HBD.out, HCD.out]) ((hB.out.setCell (Nat.le_refl _) _).setCell (Nat.le_refl _) _)

/-- address.Parse returns the address of a text, or the error. -/
theorem parse_any (s : ByteArray) (w : World) (hT : ATab w) : Calls Tryd.prog 23 #[.string s] w (ParsePost w s.data.toList) := by
  by_cases h : s.size = 19
  · exact parse_19 s w h hT
  · exact parse_len s w h
end Go.Proofs.YtpomobeogkfmfaaDoor
