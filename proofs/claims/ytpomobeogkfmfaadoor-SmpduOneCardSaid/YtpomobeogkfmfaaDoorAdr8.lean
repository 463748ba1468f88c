/- Walks of package address: Text of a valid address. -/
import Derived.Test.YtpomobeogkfmfaaDoorAdr7
import Derived.Test.YtpomobeogkfmfaaDoorMem3
import Derived.Deep.RegionLaw
namespace Go.Proofs.YtpomobeogkfmfaaDoor
open Go.RowKit

theorem u64_15 (a : Nat) (ha : a < 18446744073709551616) : bits .and .u64 (a : Int) 15 = ((a % 16 : Nat) : Int) := u64_low a 4 ha (by omega)
theorem digU_at (n : Nat) (h : n < (ByteArray.mk #[48, 49, 50, 51, 52, 53, 54, 55, 56, 57, 65, 66, 67, 68, 69, 70]).size) :
    (ByteArray.mk #[48, 49, 50, 51, 52, 53, 54, 55, 56, 57, 65, 66, 67, 68, 69, 70])[n] = digU n := by
  have h' : n < hexU.length := h
  refine (show _ = hexU[n] from rfl).trans ?_
  simp [digU, List.getD, h']

theorem letN_le (k : Int) : letN k < 256 := by
  unfold letN
  repeat' split
  all_goals omega
theorem txtS_length {k : Int} (x : Nat) (hc : chkA k x = 0) : (txtS k x).length = 18 + 1 := by
  unfold txtS
  rw [if_neg (by simp [hc]), List.length_append, List.length_dropLast, txtP_length]
  rfl
theorem text_val {k : Int} (x : Nat) (hc : chkA k x = 0) : (bys (txtP x 6)).set 17 (.int .u8 47) ++ [.int .u8 (letN k : Nat)] = bys (txtS k x) := by
  have hl := txtP_length x 6
  unfold txtS
  rw [if_neg (by simp [hc])]
  generalize txtP x 6 = l at *
  have hne : l ≠ [] := by rintro rfl; simp at hl
  obtain ⟨l', a, rfl⟩ : ∃ l' a, l = l' ++ [a] := ⟨l.dropLast, l.getLast hne, (List.dropLast_concat_getLast hne).symm⟩
  have hl' : l'.length = 17 := by simpa using hl
  rw [bys_append, List.set_append_right _ _ (by rw [bys_length]; omega), List.dropLast_concat, bys_append, bys_length, hl', List.append_assoc]
  have e : letN k % 256 = letN k := Nat.mod_eq_of_lt (letN_le k)
  simp [bys]
  omega

set_option maxRecDepth 100000 in
set_option maxHeartbeats 1000000 in
theorem text_yes (k : Int) (x : Nat) (hx : x < 18446744073709551616) (hc : chkA k x = 0) (w : World) (hT : ATab w) : Calls Tryd.prog 21 #[adr k x] w fun e w' => e = .returned (.string ⟨(txtS k x).toArray⟩) ∧ Below w.heap.size w w' := by
  have hb := al1 w (.cells #[.int .i64 k, .int .u64 (x : Int)] 24)
  go_enter Tryd.func21, Tryd.ntmps21
  go_wp2_with fail
  refine (check_any k x _ (hT.keep hb)).mono ?_
  rintro e w1 ⟨rfl, hb1⟩
  rw [hc]
  have HC := Lib.hid hc
  have hT1 := (hT.keep hb).keep hb1
  have hcl := bfar (w.heap.size + 1) hb1 (by simp)
  have hl0 := hcl w.heap.size 0 (by omega)
  have hl1 := hcl w.heap.size 1 (by omega)
  have hB := Lib.hid (bthen hb hb1)
  have hbelow := hT.1
  have hlow := Lib.hid (show w.heap.size + 1 ≤ w1.heap.size from sz1 hb1)
  clear hb1 hb hT hcl
  go_wp2_with fail
  go_loopw [3, 4] (fun v i wr => ∃ j : Nat, j ≤ 6 ∧ i = .int .i64 (40 - 8 * (j : Int)) ∧ wr.ownsRow w1.heap.size 5 1 v (3 * j) (bys (txtP x j)) ∧ Below w1.heap.size w1 wr) (fun _ i _ => (intOf i + 8).toNat)
  case atStart => exact ⟨0, by omega, rfl, by simpa [bys, txtP] using World.ownsRow_nil w1 w1.heap.size 5 1, Below.refl _ _⟩
  case round =>
    obtain ⟨j, hj, rfl, hown, hbel⟩ := hrel
    obtain ⟨wo, rfl⟩ : ∃ wo : World, wo = wr := ⟨_, rfl⟩
    have HO := Lib.hid hown
    have HW := Lib.hid hbel
    clear hown hbel
    by_cases hlt : j < 6
    · have hcl := bfar (w.heap.size + 1) HW.out (by have := hlow.out; omega)
      have hm0 := hcl w.heap.size 0 (by omega)
      have hm1 := hcl w.heap.size 1 (by omega)
      rw [hl0] at hm0
      rw [hl1] at hm1
      clear hcl
      obtain rfl | rfl | rfl | rfl | rfl | rfl : j = 0 ∨ j = 1 ∨ j = 2 ∨ j = 3 ∨ j = 4 ∨ j = 5 := by omega
      · obtain ⟨n1, hn1, e1, a1⟩ : ∃ n1 : Nat, n1 < 16 ∧ n1 = x / 1099511627776 % 16 ∧ bits .and .u64 ((x : Int) / 1099511627776) 15 = (n1 : Int) := ⟨x / 1099511627776 % 16, by omega, rfl, u64_15 (x / 1099511627776) (by omega)⟩
        obtain ⟨n2, hn2, e2, a2⟩ : ∃ n2 : Nat, n2 < 16 ∧ n2 = x / 1099511627776 / 16 % 16 ∧ bits .and .u64 ((x : Int) / 1099511627776 / 16) 15 = (n2 : Int) := ⟨x / 1099511627776 / 16 % 16, by omega, rfl, u64_15 (x / 1099511627776 / 16) (by omega)⟩
        have E1 := Lib.hid e1
        have E2 := Lib.hid e2
        have g1 : (n1 : Int) < 16 := by omega
        have g2 : (n2 : Int) < 16 := by omega
        clear e1 e2
        go_wp2_with fail
        go_region_law (first
          | (refine step_sl _ elB rfl (.tmp 17) (.tmp 25) rfl rfl (own_drew (HO.out.alloc _)) rfl (Sl.drew (Sl.lit _ _ _ 3 rfl (by simp [maxLen]))) ?_ ?_ ?_ ?_
             (case refine_1 => intro u hu; simp at hu; rcases hu with rfl | rfl | rfl <;> rfl)
             (case refine_2 => omega)
             (case refine_3 => exact Nat.le_trans HW.out.size (by simp))
             intro v2 w2 hown2 hg2 hnil2 hat2))
        all_goals
          rw [List.toList_toArray, digU_at, digU_at] at hown2
          have hb2 : Below w1.heap.size w1 w2 := below_app (HW.out.alloc HW.out.size _).drew (own_drew (HO.out.alloc _)) hg2 (Nat.le_refl _) (Nat.le_trans HW.out.size (by simp))
          have K1 := Lib.hid hown2
          have K2 := Lib.hid hb2
          clear hown2 hg2 hnil2 hat2 hb2
          go_wp2_with fail
          go_roundw
          case rel =>
            refine ⟨1, by omega, rfl, ?_, K2.out⟩
            have h := K1.out
            rw [E1.out, E2.out] at h
            have e : bys (txtG x 0) = [.int .u8 ((digU (x / 1099511627776 / 16 % 16)).toNat : Int), .int .u8 ((digU (x / 1099511627776 % 16)).toNat : Int), .int .u8 58] := by simp [txtG, bys, Nat.div_div_eq_div_mul]
            rw [txtP_succ, bys_append, e]
            exact h
          case measure => simp [intOf]
      · obtain ⟨n1, hn1, e1, a1⟩ : ∃ n1 : Nat, n1 < 16 ∧ n1 = x / 4294967296 % 16 ∧ bits .and .u64 ((x : Int) / 4294967296) 15 = (n1 : Int) := ⟨x / 4294967296 % 16, by omega, rfl, u64_15 (x / 4294967296) (by omega)⟩
        obtain ⟨n2, hn2, e2, a2⟩ : ∃ n2 : Nat, n2 < 16 ∧ n2 = x / 4294967296 / 16 % 16 ∧ bits .and .u64 ((x : Int) / 4294967296 / 16) 15 = (n2 : Int) := ⟨x / 4294967296 / 16 % 16, by omega, rfl, u64_15 (x / 4294967296 / 16) (by omega)⟩
        have E1 := Lib.hid e1
        have E2 := Lib.hid e2
        have g1 : (n1 : Int) < 16 := by omega
        have g2 : (n2 : Int) < 16 := by omega
        clear e1 e2
        go_wp2_with fail
        go_region_law (first
          | (refine step_sl _ elB rfl (.tmp 17) (.tmp 25) rfl rfl (own_drew (HO.out.alloc _)) rfl (Sl.drew (Sl.lit _ _ _ 3 rfl (by simp [maxLen]))) ?_ ?_ ?_ ?_
             (case refine_1 => intro u hu; simp at hu; rcases hu with rfl | rfl | rfl <;> rfl)
             (case refine_2 => omega)
             (case refine_3 => exact Nat.le_trans HW.out.size (by simp))
             intro v2 w2 hown2 hg2 hnil2 hat2))
        all_goals
          rw [List.toList_toArray, digU_at, digU_at] at hown2
          have hb2 : Below w1.heap.size w1 w2 := below_app (HW.out.alloc HW.out.size _).drew (own_drew (HO.out.alloc _)) hg2 (Nat.le_refl _) (Nat.le_trans HW.out.size (by simp))
          have K1 := Lib.hid hown2
          have K2 := Lib.hid hb2
          clear hown2 hg2 hnil2 hat2 hb2
          go_wp2_with fail
          go_roundw
          case rel =>
            refine ⟨2, by omega, rfl, ?_, K2.out⟩
            have h := K1.out
            rw [E1.out, E2.out] at h
            have e : bys (txtG x 1) = [.int .u8 ((digU (x / 4294967296 / 16 % 16)).toNat : Int), .int .u8 ((digU (x / 4294967296 % 16)).toNat : Int), .int .u8 58] := by simp [txtG, bys, Nat.div_div_eq_div_mul]
            rw [txtP_succ, bys_append, e]
            exact h
          case measure => simp [intOf]
      · obtain ⟨n1, hn1, e1, a1⟩ : ∃ n1 : Nat, n1 < 16 ∧ n1 = x / 16777216 % 16 ∧ bits .and .u64 ((x : Int) / 16777216) 15 = (n1 : Int) := ⟨x / 16777216 % 16, by omega, rfl, u64_15 (x / 16777216) (by omega)⟩
        obtain ⟨n2, hn2, e2, a2⟩ : ∃ n2 : Nat, n2 < 16 ∧ n2 = x / 16777216 / 16 % 16 ∧ bits .and .u64 ((x : Int) / 16777216 / 16) 15 = (n2 : Int) := ⟨x / 16777216 / 16 % 16, by omega, rfl, u64_15 (x / 16777216 / 16) (by omega)⟩
        have E1 := Lib.hid e1
        have E2 := Lib.hid e2
        have g1 : (n1 : Int) < 16 := by omega
        have g2 : (n2 : Int) < 16 := by omega
        clear e1 e2
        go_wp2_with fail
        go_region_law (first
          | (refine step_sl _ elB rfl (.tmp 17) (.tmp 25) rfl rfl (own_drew (HO.out.alloc _)) rfl (Sl.drew (Sl.lit _ _ _ 3 rfl (by simp [maxLen]))) ?_ ?_ ?_ ?_
             (case refine_1 => intro u hu; simp at hu; rcases hu with rfl | rfl | rfl <;> rfl)
             (case refine_2 => omega)
             (case refine_3 => exact Nat.le_trans HW.out.size (by simp))
             intro v2 w2 hown2 hg2 hnil2 hat2))
        all_goals
          rw [List.toList_toArray, digU_at, digU_at] at hown2
          have hb2 : Below w1.heap.size w1 w2 := below_app (HW.out.alloc HW.out.size _).drew (own_drew (HO.out.alloc _)) hg2 (Nat.le_refl _) (Nat.le_trans HW.out.size (by simp))
          have K1 := Lib.hid hown2
          have K2 := Lib.hid hb2
          clear hown2 hg2 hnil2 hat2 hb2
          go_wp2_with fail
          go_roundw
          case rel =>
            refine ⟨3, by omega, rfl, ?_, K2.out⟩
            have h := K1.out
            rw [E1.out, E2.out] at h
            have e : bys (txtG x 2) = [.int .u8 ((digU (x / 16777216 / 16 % 16)).toNat : Int), .int .u8 ((digU (x / 16777216 % 16)).toNat : Int), .int .u8 58] := by simp [txtG, bys, Nat.div_div_eq_div_mul]
            rw [txtP_succ, bys_append, e]
            exact h
          case measure => simp [intOf]
      · obtain ⟨n1, hn1, e1, a1⟩ : ∃ n1 : Nat, n1 < 16 ∧ n1 = x / 65536 % 16 ∧ bits .and .u64 ((x : Int) / 65536) 15 = (n1 : Int) := ⟨x / 65536 % 16, by omega, rfl, u64_15 (x / 65536) (by omega)⟩
        obtain ⟨n2, hn2, e2, a2⟩ : ∃ n2 : Nat, n2 < 16 ∧ n2 = x / 65536 / 16 % 16 ∧ bits .and .u64 ((x : Int) / 65536 / 16) 15 = (n2 : Int) := ⟨x / 65536 / 16 % 16, by omega, rfl, u64_15 (x / 65536 / 16) (by omega)⟩
        have E1 := Lib.hid e1
        have E2 := Lib.hid e2
        have g1 : (n1 : Int) < 16 := by omega
        have g2 : (n2 : Int) < 16 := by omega
        clear e1 e2
        go_wp2_with fail
        go_region_law (first
          | (refine step_sl _ elB rfl (.tmp 17) (.tmp 25) rfl rfl (own_drew (HO.out.alloc _)) rfl (Sl.drew (Sl.lit _ _ _ 3 rfl (by simp [maxLen]))) ?_ ?_ ?_ ?_
             (case refine_1 => intro u hu; simp at hu; rcases hu with rfl | rfl | rfl <;> rfl)
             (case refine_2 => omega)
             (case refine_3 => exact Nat.le_trans HW.out.size (by simp))
             intro v2 w2 hown2 hg2 hnil2 hat2))
        all_goals
          rw [List.toList_toArray, digU_at, digU_at] at hown2
          have hb2 : Below w1.heap.size w1 w2 := below_app (HW.out.alloc HW.out.size _).drew (own_drew (HO.out.alloc _)) hg2 (Nat.le_refl _) (Nat.le_trans HW.out.size (by simp))
          have K1 := Lib.hid hown2
          have K2 := Lib.hid hb2
          clear hown2 hg2 hnil2 hat2 hb2
          go_wp2_with fail
          go_roundw
          case rel =>
            refine ⟨4, by omega, rfl, ?_, K2.out⟩
            have h := K1.out
            rw [E1.out, E2.out] at h
            have e : bys (txtG x 3) = [.int .u8 ((digU (x / 65536 / 16 % 16)).toNat : Int), .int .u8 ((digU (x / 65536 % 16)).toNat : Int), .int .u8 58] := by simp [txtG, bys, Nat.div_div_eq_div_mul]
            rw [txtP_succ, bys_append, e]
            exact h
          case measure => simp [intOf]
      · obtain ⟨n1, hn1, e1, a1⟩ : ∃ n1 : Nat, n1 < 16 ∧ n1 = x / 256 % 16 ∧ bits .and .u64 ((x : Int) / 256) 15 = (n1 : Int) := ⟨x / 256 % 16, by omega, rfl, u64_15 (x / 256) (by omega)⟩
        obtain ⟨n2, hn2, e2, a2⟩ : ∃ n2 : Nat, n2 < 16 ∧ n2 = x / 256 / 16 % 16 ∧ bits .and .u64 ((x : Int) / 256 / 16) 15 = (n2 : Int) := ⟨x / 256 / 16 % 16, by omega, rfl, u64_15 (x / 256 / 16) (by omega)⟩
        have E1 := Lib.hid e1
        have E2 := Lib.hid e2
        have g1 : (n1 : Int) < 16 := by omega
        have g2 : (n2 : Int) < 16 := by omega
        clear e1 e2
        go_wp2_with fail
        go_region_law (first
          | (refine step_sl _ elB rfl (.tmp 17) (.tmp 25) rfl rfl (own_drew (HO.out.alloc _)) rfl (Sl.drew (Sl.lit _ _ _ 3 rfl (by simp [maxLen]))) ?_ ?_ ?_ ?_
             (case refine_1 => intro u hu; simp at hu; rcases hu with rfl | rfl | rfl <;> rfl)
             (case refine_2 => omega)
             (case refine_3 => exact Nat.le_trans HW.out.size (by simp))
             intro v2 w2 hown2 hg2 hnil2 hat2))
        all_goals
          rw [List.toList_toArray, digU_at, digU_at] at hown2
          have hb2 : Below w1.heap.size w1 w2 := below_app (HW.out.alloc HW.out.size _).drew (own_drew (HO.out.alloc _)) hg2 (Nat.le_refl _) (Nat.le_trans HW.out.size (by simp))
          have K1 := Lib.hid hown2
          have K2 := Lib.hid hb2
          clear hown2 hg2 hnil2 hat2 hb2
          go_wp2_with fail
          go_roundw
          case rel =>
            refine ⟨5, by omega, rfl, ?_, K2.out⟩
            have h := K1.out
            rw [E1.out, E2.out] at h
            have e : bys (txtG x 4) = [.int .u8 ((digU (x / 256 / 16 % 16)).toNat : Int), .int .u8 ((digU (x / 256 % 16)).toNat : Int), .int .u8 58] := by simp [txtG, bys, Nat.div_div_eq_div_mul]
            rw [txtP_succ, bys_append, e]
            exact h
          case measure => simp [intOf]
      · obtain ⟨n1, hn1, e1, a1⟩ : ∃ n1 : Nat, n1 < 16 ∧ n1 = x % 16 ∧ bits .and .u64 ((x : Int)) 15 = (n1 : Int) := ⟨x % 16, by omega, rfl, u64_15 x (by omega)⟩
        obtain ⟨n2, hn2, e2, a2⟩ : ∃ n2 : Nat, n2 < 16 ∧ n2 = x / 16 % 16 ∧ bits .and .u64 ((x : Int) / 16) 15 = (n2 : Int) := ⟨x / 16 % 16, by omega, rfl, u64_15 (x / 16) (by omega)⟩
        have E1 := Lib.hid e1
        have E2 := Lib.hid e2
        have g1 : (n1 : Int) < 16 := by omega
        have g2 : (n2 : Int) < 16 := by omega
        clear e1 e2
        go_wp2_with fail
        go_region_law (first
          | (refine step_sl _ elB rfl (.tmp 17) (.tmp 25) rfl rfl (own_drew (HO.out.alloc _)) rfl (Sl.drew (Sl.lit _ _ _ 3 rfl (by simp [maxLen]))) ?_ ?_ ?_ ?_
             (case refine_1 => intro u hu; simp at hu; rcases hu with rfl | rfl | rfl <;> rfl)
             (case refine_2 => omega)
             (case refine_3 => exact Nat.le_trans HW.out.size (by simp))
             intro v2 w2 hown2 hg2 hnil2 hat2))
        all_goals
          rw [List.toList_toArray, digU_at, digU_at] at hown2
          have hb2 : Below w1.heap.size w1 w2 := below_app (HW.out.alloc HW.out.size _).drew (own_drew (HO.out.alloc _)) hg2 (Nat.le_refl _) (Nat.le_trans HW.out.size (by simp))
          have K1 := Lib.hid hown2
          have K2 := Lib.hid hb2
          clear hown2 hg2 hnil2 hat2 hb2
          go_wp2_with fail
          go_roundw
          case rel =>
            refine ⟨6, by omega, rfl, ?_, K2.out⟩
            have h := K1.out
            rw [E1.out, E2.out] at h
            have e : bys (txtG x 5) = [.int .u8 ((digU (x / 16 % 16)).toNat : Int), .int .u8 ((digU (x % 16)).toNat : Int), .int .u8 58] := by simp [txtG, bys]
            rw [txtP_succ, bys_append, e]
            exact h
          case measure => simp [intOf]
    · obtain rfl : j = 6 := by omega
      obtain ⟨g, c, rfl⟩ : ∃ g c, u3 = .slice (some ⟨g, 0, none⟩) 18 c := by
        rcases HO.out.2 with ⟨e1, e2⟩ | ⟨g, cap, cur, e, _⟩
        · omega
        · exact ⟨g, cap, e⟩
      have d1 := HO.out.cellAt 17 (by omega)
      have d4 := HO.out.frozenAt 17
      have hst := HO.out.stored 17 (.int .u8 47)
      have HST := Lib.hid hst
      rw [bys_at (show 17 < (txtP x 6).length by rw [txtP_length]; omega)] at d1
      clear hst
      have hg := (HO.out.lt g rfl).1
      have hll := hlow.out
      have hcl := bfar (w.heap.size + 1) HW.out (by omega)
      have hm0 := hcl w.heap.size 0 (by omega)
      rw [hl0] at hm0
      have hk : 1 ≤ k ∧ k ≤ 4 := by
        unfold chkA at hc
        split at hc
        · omega
        · omega
      obtain ⟨kk, rfl⟩ := Int.eq_ofNat_of_zero_le (show 0 ≤ k by omega)
      have ht := ((hT1.keep HW.out).2 kk (by omega)).2
      have hb1 := hT1.1
      have hsz : (wo.setCell ⟨g, 17, none⟩ (.int .u8 47)).heap.size = wo.heap.size := by simp
      have hL := Sl.lit (size := 1) (wo.setCell ⟨g, 17, none⟩ (.int .u8 47)) #[.int .u8 (letN (kk : Int) : Nat)] 5 1 rfl (by simp [maxLen])
      rw [hsz] at hL
      have HL := Lib.hid hL
      clear hcl hL
      go_wp2_with (first
        | (at_builtin
           refine app_sl _ elB rfl (.tmp 32) (.tmp 37) rfl rfl (HST.out.1.alloc _) rfl HL.out ?_ ?_ ?_ ?_
           (case refine_1 => intro u hu; simp at hu; subst hu; rfl)
           (case refine_2 => omega)
           (case refine_3 => exact Nat.le_trans HW.out.size (by simp))
           intro v2 w2 hown2 hg2 hnil2 hat2
           have hcv := (BS.of_own (txtS_length x HC.out).symm (by rw [← text_val x HC.out]; exact hown2)).conv (P := Tryd.prog) (ts := 9) Tryd.underlying38 Tryd.underlying5 Tryd.underlying9))
      have hb2 : Below w1.heap.size w1 w2 := below_app (((HW.out.setCell (by simpa using hg) _)).alloc (by simpa using HW.out.size) _) (HST.out.1.alloc _) hg2 (Nat.le_refl _) (Nat.le_trans HW.out.size (by simp))
      have K2 := Lib.hid (hB.out.trans (hb2.mono (by have := hlow.out; omega)))
      go_ret
      exact ⟨rfl, K2.out⟩
end Go.Proofs.YtpomobeogkfmfaaDoor
