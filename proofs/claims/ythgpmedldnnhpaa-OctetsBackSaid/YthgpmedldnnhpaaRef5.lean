/- Walks of the reference of octets: Unhex. -/
import Derived.Test.YthgpmedldnnhpaaRef4
namespace Go.Proofs.Ythgpmedldnnhpaa
open Go.RowKit

theorem digV_ok {c : UInt8} (h : nib c < 16) : digV c = (nib c : Int) := by unfold digV; rw [if_pos h]
theorem digV_bad {c : UInt8} (h : ¬ nib c < 16) : digV c = -1 := by unfold digV; rw [if_neg h]

set_option maxRecDepth 100000 in
set_option maxHeartbeats 1000000 in
theorem refunhex_any (s : ByteArray) (w : World) (hs : s.size ≤ 140737488355328) : Calls Try.prog 21 #[.string s] w (OptPost w (unhexS s.data.toList) 2) := by
  have hsl : s.data.toList.length = s.size := by simp
  by_cases hodd : s.size % 2 = 0
  · obtain ⟨n, hn⟩ : ∃ n, s.size = 2 * n := ⟨s.size / 2, by omega⟩
    have hres : unhexS s.data.toList = unhexP s.data.toList n := by unfold unhexS; rw [hsl, if_pos hodd, hn]; congr 1; omega
    have HR := Lib.hid hres
    have HN := Lib.hid hn
    have ho : ((s.size : Int) % 2 != 0) = false := by simp; omega
    clear hres hn hsl hodd
    go_enter Try.func21, Try.ntmps21
    go_wp2_with fail
    go_loopw [4, 5] (fun v i wr => ∃ (k i0 : Nat) (ys : List UInt8), i0 ≤ s.size ∧ i0 = 2 * k ∧ i = .int .i64 i0 ∧ unhexP s.data.toList k = some ys ∧ wr.ownsRow w.heap.size 5 1 v ys.length (bys ys) ∧ Below w.heap.size w wr) (fun _ i _ => s.size - (intOf i).toNat)
    case atStart => exact ⟨0, 0, [], Nat.zero_le _, rfl, rfl, rfl, by simpa [bys] using World.ownsRow_lit (base := w.heap.size) (e := 5) (size := 1) w #[] 0 (Nat.le_refl _) (by simp [maxLen]) rfl, al1 _ _⟩
    case round =>
      obtain ⟨k, i0, ys, hi, hik, rfl, hp, hown, hbel⟩ := hrel
      obtain ⟨wo, rfl⟩ : ∃ wo : World, wo = wr := ⟨_, rfl⟩
      have HIK := Lib.hid hik
      have HP := Lib.hid hp
      have HO := Lib.hid hown
      have HW := Lib.hid hbel
      clear hik hp hown hbel
      by_cases hlt : i0 < s.size
      · have hlt' : i0 + 1 < s.size := by have := HN.out; have := HIK.out; omega
        have hkn : k + 1 ≤ n := by have := HN.out; have := HIK.out; omega
        have g1 : s.data.toList.getD (2 * k) 0 = s[i0] := by rw [str_at s i0 hlt, HIK.out]
        have g2 : s.data.toList.getD (2 * k + 1) 0 = s[i0 + 1] := by rw [str_at s (i0 + 1) hlt', HIK.out]
        have hstep : unhexP s.data.toList (k + 1) = if nib s[i0] < 16 ∧ nib s[i0 + 1] < 16 then some (ys ++ [UInt8.ofNat (16 * nib s[i0] + nib s[i0 + 1])]) else none := by
          rw [unhexP, HP.out, g1, g2]
        have hyl := unhexP_len k ys HP.out
        have HST := Lib.hid hstep
        have hfin : ¬ (nib s[i0] < 16 ∧ nib s[i0 + 1] < 16) → unhexS s.data.toList = none := fun h => by
          have := HST.out
          rw [if_neg h] at this
          rw [HR.out]
          have h2 := unhexP_none this (n - (k + 1))
          rwa [show k + 1 + (n - (k + 1)) = n by omega] at h2
        have HF := Lib.hid hfin
        have HYL := Lib.hid hyl
        clear hfin g1 g2 hstep hyl
        by_cases h1 : nib s[i0] < 16
        · by_cases h2 : nib s[i0 + 1] < 16
          · have e1 := digV_ok h1
            have e2 := digV_ok h2
            have b1 : 0 ≤ digV s[i0] := by omega
            have b2 : digV s[i0] < 16 := by omega
            have b3 : 0 ≤ digV s[i0 + 1] := by omega
            have b4 : digV s[i0 + 1] < 16 := by omega
            have b5 : decide (digV s[i0] < 0) = false := by simp; omega
            have b6 : decide (digV s[i0 + 1] < 0) = false := by simp; omega
            have hys := HYL.out
            have hkb : ys.length ≤ 70368744177664 := by have := HN.out; omega
            have E1 := Lib.hid e1
            have E2 := Lib.hid e2
            have H1 := Lib.hid h1
            have H2 := Lib.hid h2
            clear hys e1 e2 h1 h2
            have q1 : IntKind.i64.wrap ((i0 : Int) + 1) = (i0 : Int) + 1 := IntWalk.i64_in _ (by omega)
            have q2 : (0 : Int) ≤ (i0 : Int) + 1 := by omega
            have q3 : ((i0 : Int) + 1).toNat = i0 + 1 := by omega
            have q4 : (i0 : Int) + 1 < (s.size : Int) := by omega
            go_wp2_with fail
            go_quiet ((go_at_call 29; exact quiet_here (digit_any _ _)))
            clear q1
            go_wp2_with (first
              | (at_builtin
                 refine app_sl _ elB rfl (.tmp 34) (.tmp 40) rfl rfl ((HO.out.alloc _)) rfl (Sl.lit _ _ _ 1 rfl (by simp [maxLen])) ?_ ?_ ?_ ?_
                 (case refine_1 => intro u hu; simp at hu; subst hu; rfl)
                 (case refine_2 => omega)
                 (case refine_3 => exact Nat.le_trans HW.out.size (by simp))
                 intro v1 w1 hown1 hg1 hnil1 hat1))
            have hb1 : Below w.heap.size w w1 := below_app ((below_drewN HW.out nq).alloc HW.out.size _) (HO.out.alloc _) hg1 (Nat.le_refl _) (Nat.le_trans HW.out.size (by simp))
            have hst : unhexP s.data.toList (k + 1) = some (ys ++ [UInt8.ofNat (16 * nib s[i0] + nib s[i0 + 1])]) := by rw [HST.out, if_pos ⟨H1.out, H2.out⟩]
            have e : bys (ys ++ [UInt8.ofNat (16 * nib s[i0] + nib s[i0 + 1])]) = bys ys ++ #[Value.int IntKind.u8 (16 * digV s[i0] + digV s[i0 + 1])].toList := by
              rw [bys_append]
              have e2 : (((UInt8.ofNat (16 * nib s[i0] + nib s[i0 + 1])).toNat : Nat) : Int) = 16 * digV s[i0] + digV s[i0 + 1] := by
                rw [UInt8.toNat_ofNat', E1.out, E2.out]
                have := H1.out
                have := H2.out
                omega
              simp only [bys, List.map_cons, List.map_nil, e2]
            rw [← e] at hown1
            have K1 := Lib.hid hown1
            have K2 := Lib.hid hb1
            have K3 := Lib.hid hst
            clear hown1 hg1 hnil1 hat1 hb1 hst e
            go_roundw
            case rel => exact ⟨k + 1, i0 + 2, _, by omega, by have := HIK.out; omega, by go_num, K3.out, by simpa using K1.out, K2.out⟩
            case measure => simp [intOf]; omega
          · have e1 := digV_ok h1
            have e2 := digV_bad h2
            have b1 : 0 ≤ digV s[i0] := by omega
            have b2 : digV s[i0] < 16 := by omega
            have b5 : decide (digV s[i0] < 0) = false := by simp; omega
            have b6 : decide (digV s[i0 + 1] < 0) = true := by simp; omega
            have H2 := Lib.hid h2
            clear e1 e2 h1 h2
            have q1 : IntKind.i64.wrap ((i0 : Int) + 1) = (i0 : Int) + 1 := IntWalk.i64_in _ (by omega)
            have q2 : (0 : Int) ≤ (i0 : Int) + 1 := by omega
            have q3 : ((i0 : Int) + 1).toNat = i0 + 1 := by omega
            have q4 : (i0 : Int) + 1 < (s.size : Int) := by omega
            go_wp2_with fail
            go_quiet ((go_at_call 29; exact quiet_here (digit_any _ _)))
            clear q1
            go_wp2_with fail
            go_ret2
            refine ⟨below_drewN HW.out _, ?_⟩
            rw [HF.out (fun h => H2.out h.2)]
            rfl
        · have e1 := digV_bad h1
          have b5 : decide (digV s[i0] < 0) = true := by simp; omega
          have H1 := Lib.hid h1
          clear e1 h1
          have q1 : IntKind.i64.wrap ((i0 : Int) + 1) = (i0 : Int) + 1 := IntWalk.i64_in _ (by omega)
          have q2 : (0 : Int) ≤ (i0 : Int) + 1 := by omega
          have q3 : ((i0 : Int) + 1).toNat = i0 + 1 := by omega
          have q4 : (i0 : Int) + 1 < (s.size : Int) := by omega
          go_wp2_with fail
          go_quiet ((go_at_call 29; exact quiet_here (digit_any _ _)))
          clear q1
          go_wp2_with fail
          go_ret2
          refine ⟨below_drewN HW.out _, ?_⟩
          rw [HF.out (fun h => H1.out h.1)]
          rfl
      · go_wp2_with fail
        go_ret2
        have hkn : k = n := by have := HN.out; have := HIK.out; omega
        subst hkn
        refine ⟨HW.out, ?_⟩
        rw [HR.out, HP.out]
        exact ⟨_, rfl, HO.out⟩
  · have hres : unhexS s.data.toList = none := by unfold unhexS; rw [hsl, if_neg hodd]
    have HR := Lib.hid hres
    have ho : ((s.size : Int) % 2 != 0) = true := by rw [bne_iff_ne]; omega
    clear hres hsl hodd
    go_enter Try.func21, Try.ntmps21
    go_wp2_with fail
    go_ret2
    refine ⟨Below.refl _ _, ?_⟩
    rw [HR.out]
    rfl
end Go.Proofs.Ythgpmedldnnhpaa
