/- Walks of the reference of package address: Parse. -/
import Derived.Test.YtpomobeogkfmfaaDoorAdr12
namespace Go.Proofs.YtpomobeogkfmfaaDoor
open Go.RowKit

theorem quiet_add_left {P : Program} {f : FuncId} {args : Array Value} {w : World} {a n : Nat} {v : Value}
    (h : Calls P f args (w.drewN (a + n)) fun e w' => e = .returned v ∧ w.drewN (a + n) = w') :
    Calls P f args (w.drewN (a + n)) fun e w'' => e = .returned v ∧ ∃ m, w'' = w.drewN (a + m) :=
  h.mono fun _ _ ⟨he, hm⟩ => ⟨he, n, hm.symm⟩

theorem below_of_drewN {B : Nat} {a w : World} {n : Nat} (h : Below B (a.drewN n) w) : Below B a w := ⟨h.os, h.tape, h.output, h.size, h.block⟩
/-- What find returns of a digit, of a letter. -/
def fH (c : Nat) : Int := if nibU c < 16 then (nibU c : Int) else -1
theorem fnd_hex : ∀ c, c < 256 → fndI [48, 49, 50, 51, 52, 53, 54, 55, 56, 57, 65, 66, 67, 68, 69, 70] c = fH c := by decide +kernel
theorem fnd_let : ∀ c, c < 256 → fndI [112, 115, 114, 97] c = kindC c - 1 := by decide +kernel

theorem findH (c : Nat) (hc : c < 256) (w : World) : Calls Tryd.prog 46 #[.string ⟨#[48, 49, 50, 51, 52, 53, 54, 55, 56, 57, 65, 66, 67, 68, 69, 70]⟩, .int .u8 (c : Int)] w fun e w' => e = .returned (.int .i64 (fH c)) ∧ w = w' := by
  have h := find_any ⟨#[48, 49, 50, 51, 52, 53, 54, 55, 56, 57, 65, 66, 67, 68, 69, 70]⟩ c (by decide) w
  rw [← fnd_hex c hc]
  exact h
theorem findL (c : Nat) (hc : c < 256) (w : World) : Calls Tryd.prog 46 #[.string ⟨#[112, 115, 114, 97]⟩, .int .u8 (c : Int)] w fun e w' => e = .returned (.int .i64 (kindC c - 1)) ∧ w = w' := by
  have h := find_any ⟨#[112, 115, 114, 97]⟩ c (by decide) w
  rw [← fnd_let c hc]
  exact h
theorem fH_dV (c : Nat) : fH c = if dB c = true then (dV c : Int) else -1 := by
  unfold fH dB dV
  by_cases h : nibU c < 16
  · rw [if_pos h, if_pos h, if_pos (decide_eq_true h)]
  · rw [if_neg h, if_neg (by simpa using h)]
theorem store_bits (w : World) (t : TypeId) (k x y : Int) (n : Nat) :
    (((w.alloc (.cells #[.int .i64 0, .int .u64 0] t)).alloc (.cells #[.int .i64 k, .int .u64 x] t)).drewN n).setCell ⟨w.heap.size + 1, 1, none⟩ (.int .u64 y) =
      ((w.alloc (.cells #[.int .i64 0, .int .u64 0] t)).alloc (.cells #[.int .i64 k, .int .u64 y] t)).drewN n := by
  show ((((w.alloc (.cells #[.int .i64 0, .int .u64 0] t)).alloc (.cells #[.int .i64 k, .int .u64 x] t))).setCell ⟨w.heap.size + 1, 1, none⟩ (.int .u64 y)).drewN n = _
  rw [World.setCell_alloc_at _ _ _ _ _ (by simp)]
  rfl
theorem findH8 (b : UInt8) (w : World) : Calls Tryd.prog 46 #[.string ⟨#[48, 49, 50, 51, 52, 53, 54, 55, 56, 57, 65, 66, 67, 68, 69, 70]⟩, .int .u8 (b.toNat : Int)] w fun e w' => e = .returned (.int .i64 (fH b.toNat)) ∧ w = w' :=
  findH b.toNat (by have := b.toNat_lt; omega) w
theorem kindC_in (c : Nat) : 0 ≤ kindC c ∧ kindC c ≤ 4 := by
  unfold kindC
  repeat' split
  all_goals omega

set_option maxRecDepth 100000 in
set_option maxHeartbeats 2000000 in
theorem rparse_bad (s : ByteArray) (w : World) (hl : s.size ≠ 19) : Calls Tryd.prog 24 #[.string s] w (ParsePost w s.data.toList) := by
  have hne : ((s.size : Int) != 19) = true := ne_bool (by omega)
  have HL := Lib.hid hl
  clear hl
  go_enter Tryd.func24, Tryd.ntmps24
  go_wp2_with fail
  refine bodyPost_ret (v := .tuple #[adr 0 0, .int .i64 2]) (by simp [results, Tryd.results24, go_sem]) rfl ?_
  exact parsePost_bad (fun h => HL.out (by simpa using h.1)) rfl (al1 _ _)

set_option maxRecDepth 100000 in
set_option maxHeartbeats 2000000 in
theorem rparse_17 (s : ByteArray) (w : World) (hl : s.size = 19) (hs : lat s.data.toList 17 ≠ 47) : Calls Tryd.prog 24 #[.string s] w (ParsePost w s.data.toList) := by
  have hne : ((s.size : Int) != 19) = false := eq_bool (by omega)
  have b17 : 17 < s.size := by omega
  have hs' : ((s[17].toNat : Int) != 47) = true := ne_bool (by rw [lat_of b17]; omega)
  have HS := Lib.hid hs
  have HL := Lib.hid hl
  clear hl hs
  go_enter Tryd.func24, Tryd.ntmps24
  go_wp2_with fail
  refine bodyPost_ret (v := .tuple #[adr 0 0, .int .i64 2]) (by simp [results, Tryd.results24, go_sem]) rfl ?_
  refine parsePost_bad (fun h => ?_) rfl (al1 _ _)
  have h1 := allOk_at h.2.1 (j := 5) (by omega)
  unfold grpOk at h1
  exact HS.out (of_decide_eq_true h1).2.2

set_option maxRecDepth 100000 in
set_option maxHeartbeats 4000000 in
theorem rparse_19 (s : ByteArray) (w : World) (hl : s.size = 19) (hs : lat s.data.toList 17 = 47) : Calls Tryd.prog 24 #[.string s] w (ParsePost w s.data.toList) := by
  have hlen : s.data.toList.length = 19 := by simpa using hl
  have hne : ((s.size : Int) != 19) = false := eq_bool (by omega)
  have b17 : 17 < s.size := by omega
  have b18 : 18 < s.size := by omega
  have hs' : ((s[17].toNat : Int) != 47) = false := eq_bool (by rw [lat_of b17]; omega)
  have HS := Lib.hid hs
  have HL := Lib.hid hl
  have HLEN := Lib.hid hlen
  clear hl hlen hs
  go_enter Tryd.func24, Tryd.ntmps24
  go_wp2_with fail
  refine (findL s[18].toNat (by have := s[18].toNat_lt; omega) _).mono ?_
  rintro e w1 ⟨rfl, rfl⟩
  have hk := kindC_in s[18].toNat
  have HLC := Lib.hid (show kindC s[18].toNat = kindC (lat s.data.toList 18) by rw [lat_of b18])
  obtain ⟨hk0, hk4⟩ := hk
  generalize kindC s[18].toNat = kk at *
  have ek : (1 : Int) + (kk - 1) = kk := by omega
  go_wp2_with fail
  clear ek
  go_loopw [5] (fun i wr => ∃ j d : Nat, j ≤ 6 ∧ i = .int .i64 ((j : Nat) : Int) ∧ (∀ i, i < j → grpOk s.data.toList i = true) ∧
    wr = ((w.alloc (.cells #[.int .i64 0, .int .u64 0] 24)).alloc (.cells #[.int .i64 kk, .int .u64 (bitsP s.data.toList j : Nat)] 24)).drewN d) (fun i _ => 6 - (intOf i).toNat)
  case atStart => exact ⟨0, 0, by omega, rfl, fun i hi => absurd hi (by omega), rfl⟩
  case round =>
    obtain ⟨j, d, hj, rfl, hall, rfl⟩ := hrel
    have hbl := bitsP_lt s.data.toList j hall
    have hpow : 256 ^ j ≤ 256 ^ 6 := Nat.pow_le_pow_right (by omega) hj
    have HA := Lib.hid hall
    have hsz := HL.out
    by_cases hlt : j < 6
    · have hpow5 : 256 ^ j ≤ 256 ^ 5 := Nat.pow_le_pow_right (by omega) (by omega)
      obtain ⟨i, hi⟩ : ∃ i : Nat, i = 3 * j := ⟨_, rfl⟩
      have HI := Lib.hid hi
      have e3 : 3 * (j : Int) = (i : Int) := by omega
      have hi15 : i ≤ 15 := by omega
      have b0 : i < s.size := by omega
      have b1 : i + 1 < s.size := by omega
      have b2 : i + 2 < s.size := by omega
      have c0 : (i : Int) < s.size := by omega
      have c1 : (i : Int) + 1 < s.size := by omega
      have hbits : bitsP s.data.toList j < 1099511627776 := Nat.lt_of_lt_of_le hbl hpow5
      clear hall hbl hpow hpow5 hsz hi
      generalize hbd : bitsP s.data.toList j = bb at *
      have HBD := Lib.hid hbd
      clear hbd
      have hg : grpOk s.data.toList j = (dB s[i].toNat && dB s[i + 1].toNat && (s[i + 2].toNat == sepC j)) := by
        unfold grpOk dB
        rw [lat_of b0, lat_of b1, lat_of b2, HI.out]
        rw [Bool.eq_iff_iff]
        simp only [decide_eq_true_eq, Bool.and_eq_true, beq_iff_eq]
        exact ⟨fun ⟨a, b, c⟩ => ⟨⟨a, b⟩, c⟩, fun ⟨⟨a, b⟩, c⟩ => ⟨a, b, c⟩⟩
      have HG := Lib.hid hg
      have HV : dB s[i].toNat = true → dB s[i + 1].toNat = true → bitsP s.data.toList (j + 1) = bb * 256 + 16 * dV s[i].toNat + dV s[i + 1].toNat ∧ dV s[i].toNat < 16 ∧ dV s[i + 1].toNat < 16 := by
        intro h1 h2
        unfold dB at h1 h2
        have h1 := of_decide_eq_true h1
        have h2 := of_decide_eq_true h2
        unfold dV
        rw [if_pos h1, if_pos h2]
        refine ⟨?_, h1, h2⟩
        show bitsP s.data.toList j * 256 + 16 * nibU (lat s.data.toList (3 * j)) + nibU (lat s.data.toList (3 * j + 1)) = _
        rw [HBD.out, lat_of b0, lat_of b1, HI.out]
      have HVV := Lib.hid HV
      clear hg HV
      have w1 : IntKind.i64.wrap (i : Int) = (i : Int) := IntWalk.i64_in _ (by omega)
      have w2 : IntKind.i64.wrap ((i : Int) + 1) = (i : Int) + 1 := IntWalk.i64_in _ (by omega)
      have w3 : (0 : Int) ≤ (i : Int) + 1 := by omega
      have w4 : ((i : Int) + 1).toNat = i + 1 := by omega
      go_wp2_with fail
      go_quiet ((go_at_call 46; exact quiet_add_left (findH8 _ _)))
      rw [fH_dV, fH_dV]
      have hfz : ∀ (v : Nat), decide ((v : Int) < 0) = false := fun v => by simp
      have HFZ := Lib.hid hfz
      have w5 : (i : Int) + 2 < s.size := by omega
      clear hfz
      generalize hp0 : dB s[i].toNat = p0 at *
      generalize hp1 : dB s[i + 1].toNat = p1 at *
      generalize hv0 : dV s[i].toNat = v0 at *
      generalize hv1 : dV s[i + 1].toNat = v1 at *
      clear hp0 hp1 hv0 hv1
      rcases p0 with _ | _
      · clear HVV
        rw [if_neg Bool.false_ne_true]
        generalize (if p1 = true then (v1 : Int) else -1) = z1
        go_wp2_with fail
        refine bodyPost_ret (v := .tuple #[adr 0 0, .int .i64 2]) (by simp [results, Tryd.results24, go_sem]) rfl ?_
        refine parsePost_bad (fun h => ?_) rfl (((below_drewN (al2 w _ _) _).setCell (Nat.le_refl _) _).setCell (Nat.le_refl _) _)
        have h1 := allOk_no hlt (HG.out.trans (by simp))
        rw [h1] at h
        exact absurd h.2.1 (by decide)
      · rw [if_pos rfl]
        have hf0 := HFZ.out v0
        rcases p1 with _ | _
        · clear HVV
          rw [if_neg Bool.false_ne_true]
          go_wp2_with fail
          refine bodyPost_ret (v := .tuple #[adr 0 0, .int .i64 2]) (by simp [results, Tryd.results24, go_sem]) rfl ?_
          refine parsePost_bad (fun h => ?_) rfl (((below_drewN (al2 w _ _) _).setCell (Nat.le_refl _) _).setCell (Nat.le_refl _) _)
          have h1 := allOk_no hlt (HG.out.trans (by simp))
          rw [h1] at h
          exact absurd h.2.1 (by decide)
        · rw [if_pos rfl]
          have hf1 := HFZ.out v1
          obtain ⟨hb1, hv0, hv1⟩ := HVV.out rfl rfl
          have HB1 := Lib.hid hb1
          clear hb1 HVV
          by_cases h5 : j = 5
          · have f5 : decide ((j : Int) < 5) = false := decide_eq_false (by omega)
            have hs : s[i + 2].toNat = 47 := by
              have h := HS.out
              have h2 := HI.out
              obtain rfl : i = 15 := by omega
              rw [lat_of b2]
              exact h
            have HOKJ := Lib.hid (show (s[i + 2].toNat == sepC j) = true by rw [hs, h5]; rfl)
            clear h5 hs
            go_wp2_with fail
            go_roundw
            case rel =>
              refine ⟨j + 1, d + nq, by omega, by go_num, fun i' hi' => ?_, by rw [store_bits, HB1.out, show ((bb : Int) * 256 + (16 * (v0 : Int) + v1)) = ((bb * 256 + 16 * v0 + v1 : Nat) : Int) by omega]⟩
              rcases Nat.lt_or_ge i' j with h | h
              · exact HA.out i' h
              · obtain rfl : i' = j := by omega
                refine HG.out.trans ?_
                rw [HOKJ.out]
                rfl
            case measure => simp [intOf]; omega
          · have f5 : decide ((j : Int) < 5) = true := decide_eq_true (by omega)
            by_cases hs : s[i + 2].toNat = 58
            · have hs' : ((s[i + 2].toNat : Int) != 58) = false := eq_bool (by omega)
              have HOKJ := Lib.hid (show (s[i + 2].toNat == sepC j) = true by rw [hs]; unfold sepC; rw [if_neg h5]; rfl)
              clear h5 hs
              go_wp2_with fail
              go_roundw
              case rel =>
                refine ⟨j + 1, d + nq, by omega, by go_num, fun i' hi' => ?_, by rw [store_bits, HB1.out, show ((bb : Int) * 256 + (16 * (v0 : Int) + v1)) = ((bb * 256 + 16 * v0 + v1 : Nat) : Int) by omega]⟩
                rcases Nat.lt_or_ge i' j with h | h
                · exact HA.out i' h
                · obtain rfl : i' = j := by omega
                  refine HG.out.trans ?_
                  rw [HOKJ.out]
                  rfl
              case measure => simp [intOf]; omega
            · have hs' : ((s[i + 2].toNat : Int) != 58) = true := ne_bool (by omega)
              have HOKJ := Lib.hid (show (s[i + 2].toNat == sepC j) = false by unfold sepC; rw [if_neg h5]; simpa using hs)
              clear h5 hs
              go_wp2_with fail
              refine bodyPost_ret (v := .tuple #[adr 0 0, .int .i64 2]) (by simp [results, Tryd.results24, go_sem]) rfl ?_
              refine parsePost_bad (fun h => ?_) rfl (((below_drewN (al2 w _ _) _).setCell (Nat.le_refl _) _).setCell (Nat.le_refl _) _)
              have h1 := allOk_no hlt (HG.out.trans (by rw [HOKJ.out]; rfl))
              rw [h1] at h
              exact absurd h.2.1 (by decide)
    · obtain rfl : j = 6 := by omega
      have HOK := Lib.hid (allOk_yes hall)
      have hbl' : bitsP s.data.toList 6 < 281474976710656 := hbl
      clear hall hbl hpow
      generalize hbd : bitsP s.data.toList 6 = bb at *
      have HBD := Lib.hid hbd
      clear hbd
      by_cases h0 : kk = 0
      · subst h0
        go_wp2_with fail
        refine bodyPost_ret (v := .tuple #[adr 0 0, .int .i64 2]) (by simp [results, Tryd.results24, go_sem]) rfl ?_
        exact parsePost_bad (fun h => h.2.2 HLC.out.symm) rfl (((below_drewN (al2 w _ _) _).setCell (Nat.le_refl _) _).setCell (Nat.le_refl _) _)
      · have h0' : (kk == 0) = false := neq_bool h0
        have HALL := Lib.hid (show s.data.toList.length = 19 ∧ allOk s.data.toList = true ∧ kindC (lat s.data.toList 18) ≠ 0 from ⟨HLEN.out, HOK.out, by rw [← HLC.out]; exact h0⟩)
        clear h0
        go_wp2_with fail
        refine (rcheck_any kk bb _).mono ?_
        rintro e w1 ⟨rfl, hb1⟩
        have hb1 : Below ((w.alloc (.cells #[.int .i64 0, .int .u64 0] 24)).alloc (.cells #[.int .i64 kk, .int .u64 (bb : Nat)] 24)).heap.size ((w.alloc (.cells #[.int .i64 0, .int .u64 0] 24)).alloc (.cells #[.int .i64 kk, .int .u64 (bb : Nat)] 24)) w1 := below_of_drewN hb1
        have hB := Lib.hid (two hb1)
        obtain ⟨hcl, hfr⟩ := bcell hb1
        have hz := sz2 hb1
        obtain ⟨hz1, hz2⟩ := hz
        have q0 : w1.cell? ⟨w.heap.size, 0, none⟩ = some (.int .i64 0) := by
          rw [hcl w.heap.size 0 (by simp; omega)]
          simp [go_sem]
        have q1 : w1.cell? ⟨w.heap.size, 1, none⟩ = some (.int .u64 0) := by
          rw [hcl w.heap.size 1 (by simp; omega)]
          simp [go_sem]
        by_cases hc : chkA kk bb = 0
        · have HC := Lib.hid hc
          rw [hc]
          clear hc
          go_wp2_with fail
          refine bodyPost_ret (v := .tuple #[adr kk bb, .int .i64 0]) (by simp [results, Tryd.results24, go_sem, q0, q1]) rfl ?_
          exact parsePost_ok HALL.out (by rw [← HLC.out, HBD.out]; exact HC.out) (by rw [← HLC.out, HBD.out]) ((hB.out.setCell (Nat.le_refl _) _).setCell (Nat.le_refl _) _)
        · have hc' := ne_bool hc
          have HC := Lib.hid hc
          clear hc
          generalize hcd : chkA kk bb = cc at *
          have HCD := Lib.hid hcd
          clear hcd
          go_wp2_with fail
          refine bodyPost_ret (v := .tuple #[adr 0 0, .int .i64 cc]) (by simp [results, Tryd.results24, go_sem, q0, q1]) rfl ?_
          exact parsePost_chk HALL.out (by rw [← HLC.out, HBD.out, HCD.out]; exact HC.out) (by rw [← HLC.out, HBD.out, HCD.out]) ((hB.out.setCell (Nat.le_refl _) _).setCell (Nat.le_refl _) _)

/-- The reference's Parse returns the address of a text, or the error. -/
theorem rparse_any (s : ByteArray) (w : World) : Calls Tryd.prog 24 #[.string s] w (ParsePost w s.data.toList) := by
  by_cases h : s.size = 19
  · by_cases h17 : lat s.data.toList 17 = 47
    · exact rparse_19 s w h h17
    · exact rparse_17 s w h h17
  · exact rparse_bad s w h
end Go.Proofs.YtpomobeogkfmfaaDoor
