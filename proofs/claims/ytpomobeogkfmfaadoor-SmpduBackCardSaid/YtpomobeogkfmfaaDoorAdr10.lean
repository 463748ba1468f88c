/- Walks of the reference of package address: Text. -/
import Derived.Test.YtpomobeogkfmfaaDoorAdr9
namespace Go.Proofs.YtpomobeogkfmfaaDoor
open Go.RowKit

theorem le_at (n x m : Nat) (h : m < (le n x).length) : ((le n x)[m]).toNat = x / 2 ^ (8 * m) % 256 := by
  simp [le, UInt8.toNat_ofNat']
theorem txtQ_bys {x j m : Nat} (hj : 0 < j) (hm : m = 5 - j) (h6 : j < 6) : bys (txtQ x j) = [.int .u8 58, .int .u8 ((digU (x / 2 ^ (8 * m) % 256 / 16)).toNat : Int), .int .u8 ((digU (x / 2 ^ (8 * m) % 256 % 16)).toNat : Int)] := by
  have e : 40 - 8 * j = 8 * m := by omega
  unfold txtQ
  rw [e, if_neg (by omega)]
  rfl
theorem txtQ_bys0 (x : Nat) : bys (txtQ x 0) = [.int .u8 ((digU (x / 2 ^ (8 * 5) % 256 / 16)).toNat : Int), .int .u8 ((digU (x / 2 ^ (8 * 5) % 256 % 16)).toNat : Int)] := rfl

set_option maxRecDepth 100000 in
set_option maxHeartbeats 1000000 in
theorem rtext_no (k : Int) (x : Nat) (hc : chkA k x ≠ 0) (w : World) : Calls Tryd.prog 22 #[adr k x] w fun e w' => e = .returned (.string ⟨#[]⟩) ∧ Below w.heap.size w w' := by
  have hb := al1 w (.cells #[.int .i64 k, .int .u64 (x : Int)] 24)
  have HC := Lib.hid (ne_bool hc)
  go_enter Tryd.func22, Tryd.ntmps22
  go_wp2_with fail
  refine (rcheck_any k x _).mono ?_
  rintro e w1 ⟨rfl, hb1⟩
  have f := HC.out
  generalize chkA k x = c at *
  go_wp2_with fail
  go_ret
  exact ⟨rfl, bthen hb hb1⟩

set_option maxRecDepth 100000 in
set_option maxHeartbeats 2000000 in
theorem rtext_yes (k : Int) (x : Nat) (hx : x < 18446744073709551616) (hc : chkA k x = 0) (w : World) : Calls Tryd.prog 22 #[adr k x] w fun e w' => e = .returned (.string ⟨(txtS k x).toArray⟩) ∧ Below w.heap.size w w' := by
  have hb := al1 w (.cells #[.int .i64 k, .int .u64 (x : Int)] 24)
  go_enter Tryd.func22, Tryd.ntmps22
  go_wp2_with fail
  refine (rcheck_any k x _).mono ?_
  rintro e w1 ⟨rfl, hb1⟩
  rw [hc]
  have HC := Lib.hid hc
  have hcl := bfar (w.heap.size + 1) hb1 (by simp)
  have hl0 := hcl w.heap.size 0 (by omega)
  have hl1 := hcl w.heap.size 1 (by omega)
  have hB := Lib.hid (bthen hb hb1)
  have hlow := Lib.hid (show w.heap.size + 1 ≤ w1.heap.size from sz1 hb1)
  clear hb1 hb hcl hc
  go_wp2_with fail
  refine (num_any 6 x _ (by omega) hx).mono ?_
  rintro e w2 ⟨hb2, u, rfl, hu⟩
  have hll := hlow.out
  have hcl := bfar (w.heap.size + 1) hb2 (by omega)
  have hm0 := hcl w.heap.size 0 (by omega)
  rw [hl0] at hm0
  have hbs : BS w2 w2.heap.size u (le 6 x) := BS.of_own rfl hu
  obtain ⟨b1, o1, c1, rfl, hB1, _, _, _⟩ := hbs.at_ (bys_at (k := 0) (by rw [le_length]; omega))
  rw [le_length] at hbs ⊢
  have HU := Lib.hid hbs
  have hB2 := Lib.hid (hB.out.trans (hb2.mono (by omega)))
  have hlow2 := Lib.hid (show w.heap.size + 1 ≤ w2.heap.size by have := hb2.size; omega)
  have HM := Lib.hid hm0
  clear hb2 hcl hu hbs hl0 hl1 hll hm0 hlow hB
  go_wp2_with fail
  go_loopw [4, 5] (fun v i wr => ∃ j : Nat, j ≤ 6 ∧ i = .int .i64 (5 - (j : Int)) ∧ wr.ownsRow w2.heap.size 5 1 v (txtR x j).length (bys (txtR x j)) ∧ Below w2.heap.size w2 wr) (fun _ i _ => (intOf i + 1).toNat)
  case atStart => exact ⟨0, by omega, rfl, by simpa [bys, txtR] using World.ownsRow_lit (base := w2.heap.size) (e := 5) (size := 1) w2 #[] 0 (Nat.le_refl _) (by simp [maxLen]) rfl, al1 _ _⟩
  case round =>
    obtain ⟨j, hj, rfl, hown, hbel⟩ := hrel
    obtain ⟨wo, rfl⟩ : ∃ wo : World, wo = wr := ⟨_, rfl⟩
    have HO := Lib.hid hown
    have HW := Lib.hid hbel
    have hlen := txtR_length x j
    have HLEN : (txtR x j).length ≤ 20 := by rw [hlen]; split <;> omega
    clear hown hbel hlen
    by_cases hlt : j < 6
    · obtain ⟨m, hm⟩ : ∃ m : Nat, m = 5 - j := ⟨_, rfl⟩
      have hmi : (5 - (j : Int)) = (m : Int) := by omega
      rw [hmi]
      have HMI := Lib.hid hmi
      have hm6 : m < 6 := by omega
      have hm6' : (m : Int) < 6 := by omega
      have HM2 := Lib.hid hm
      have hy : x / 2 ^ (8 * m) % 256 ≤ 255 := by omega
      have hcell : ∀ w', Below w2.heap.size w2 w' → w'.cell? ⟨b1, o1 + m, none⟩ = some (.int .u8 ((x / 2 ^ (8 * m) % 256 : Nat) : Int)) := by
        intro w' hb
        obtain ⟨b', o', c', e, _, _, _, h⟩ := (Sl.below HU.out hb).at_ (k := m) (bys_at (by rw [le_length]; omega))
        rw [le_at] at h
        injection e with e
        injection e with e
        injection e with e1 e2
        rw [e1, e2]
        exact h
      have HCL := Lib.hid hcell
      generalize hyd : x / 2 ^ (8 * m) % 256 = y at *
      have HY := Lib.hid hyd
      have g1 : (0 : Int) ≤ (y : Int) / 16 := by omega
      have g2 : (y : Int) / 16 < 16 := by omega
      have g3 : (0 : Int) ≤ (y : Int) % 16 := by omega
      have g4 : (y : Int) % 16 < 16 := by omega
      have g5 : ((y : Int) / 16).toNat = y / 16 := by omega
      have g6 : ((y : Int) % 16).toNat = y % 16 := by omega
      have g8 : IntKind.u8.wrap ((y : Int) / 16) = (y : Int) / 16 := by rw [IntKind.wrap_u8]; omega
      have g9 : (y : Int).tmod 16 = (y : Int) % 16 := Int.tmod_eq_emod_of_nonneg (by omega)
      have G := Lib.hid (And.intro g1 (And.intro g2 (And.intro g3 (And.intro g4 (And.intro g5 (And.intro g6 (And.intro g8 g9)))))))
      clear hmi hm hcell hyd g1 g2 g3 g4 g5 g6 g8 g9
      rcases Nat.eq_zero_or_pos j with h0 | h0
      · subst h0
        obtain rfl : m = 5 := HM2.out
        go_wp2_with fail
        have d1 := HCL.out wo HW.out
        obtain ⟨g1, g2, g3, g4, g5, g6, g8, g9⟩ := G.out
        go_region_law (first
          | (refine step_sl _ elB rfl (.tmp 22) (.tmp 35) rfl rfl (own_drew (HO.out.alloc _)) rfl (Sl.drew (Sl.lit _ _ _ 2 rfl (by simp [maxLen]))) ?_ ?_ ?_ ?_
             (case refine_1 => intro u hu; simp at hu; rcases hu with rfl | rfl <;> rfl)
             (case refine_2 => omega)
             (case refine_3 => exact Nat.le_trans HW.out.size (by simp))
             intro v3 w3 hown3 hg3 hnil3 hat3))
        all_goals
          have hb3 : Below w2.heap.size w2 w3 := below_app (HW.out.alloc HW.out.size _).drew (own_drew (HO.out.alloc _)) hg3 (Nat.le_refl _) (Nat.le_trans HW.out.size (by simp))
          rw [List.toList_toArray, digU_at, digU_at] at hown3
          have K1 := Lib.hid hown3
          have K5 := Lib.hid hb3
          clear hown3 hg3 hnil3 hat3 hb3 d1
          go_wp2
          go_roundw
          case rel =>
            refine ⟨1, by omega, rfl, ?_, K5.out⟩
            rw [txtR_succ, List.length_append, bys_append, txtQ_bys0, HY.out]
            exact K1.out
          case measure => simp [intOf]
      · have hm5 : m < 5 := by have := HM2.out; omega
        go_wp2_with (first
          | (at_builtin
             refine app_sl _ elB rfl (.tmp 19) (.tmp 20) rfl rfl (HO.out.alloc _) rfl (Sl.lit _ _ _ 1 rfl (by simp [maxLen])) ?_ ?_ ?_ ?_
             (case refine_1 => intro u hu; simp at hu; subst hu; rfl)
             (case refine_2 => omega)
             (case refine_3 => exact Nat.le_trans HW.out.size (by simp))
             intro v3 w3 hown3 hg3 hnil3 hat3))
        have hb3 : Below w2.heap.size w2 w3 := below_app (HW.out.alloc HW.out.size _) (HO.out.alloc _) hg3 (Nat.le_refl _) (Nat.le_trans HW.out.size (by simp))
        have d1 := HCL.out w3 hb3
        have HO3 := Lib.hid hown3
        have HW3 := Lib.hid hb3
        clear hown3 hg3 hnil3 hat3 hb3
        obtain ⟨g1, g2, g3, g4, g5, g6, g8, g9⟩ := G.out
        go_region_law (first
          | (refine step_sl _ elB rfl (.tmp 22) (.tmp 35) rfl rfl (own_drew (HO3.out.alloc _)) rfl (Sl.drew (Sl.lit _ _ _ 2 rfl (by simp [maxLen]))) ?_ ?_ ?_ ?_
             (case refine_1 => intro u hu; simp at hu; rcases hu with rfl | rfl <;> rfl)
             (case refine_2 => omega)
             (case refine_3 => exact Nat.le_trans HW3.out.size (by simp))
             intro v4 w4 hown4 hg4 hnil4 hat4))
        all_goals
          have hb4 : Below w2.heap.size w2 w4 := below_app (HW3.out.alloc HW3.out.size _).drew (own_drew (HO3.out.alloc _)) hg4 (Nat.le_refl _) (Nat.le_trans HW3.out.size (by simp))
          rw [List.toList_toArray, digU_at, digU_at] at hown4
          have K1 := Lib.hid hown4
          have K5 := Lib.hid hb4
          clear hown4 hg4 hnil4 hat4 hb4 d1
          go_wp2
          go_roundw
          case rel =>
            refine ⟨j + 1, by omega, int_ext (by have := HMI.out; omega), ?_, K5.out⟩
            have hq := txtQ_bys (x := x) h0 HM2.out hlt
            rw [HY.out] at hq
            have hql : (txtQ x j).length = 3 := by rw [← bys_length, hq]; rfl
            rw [txtR_succ, List.length_append, bys_append, hq, hql]
            simpa using K1.out
          case measure => simp [intOf]
    · obtain rfl : j = 6 := by omega
      have hk : 1 ≤ k ∧ k ≤ 4 := by
        have hc := HC.out
        unfold chkA at hc
        split at hc
        · omega
        · omega
      have hcl := bfar (w.heap.size + 1) HW.out (by have := hlow2.out; omega)
      have hm0 := hcl w.heap.size 0 (by omega)
      rw [HM.out] at hm0
      clear hcl
      obtain ⟨hk1, hk4⟩ := hk
      obtain rfl | rfl | rfl | rfl : k = 1 ∨ k = 2 ∨ k = 3 ∨ k = 4 := by omega
      all_goals
        clear hk1 hk4
        go_wp2_with (first
          | (at_builtin
             refine app_sl _ elB rfl (.tmp 37) (.tmp 42) rfl rfl (HO.out.alloc _) rfl (Sl.lit _ _ _ 2 rfl (by simp [maxLen])) ?_ ?_ ?_ ?_
             (case refine_1 => intro u hu; simp at hu; rcases hu with rfl | rfl <;> rfl)
             (case refine_2 => omega)
             (case refine_3 => exact Nat.le_trans HW.out.size (by simp))
             intro v3 w3 hown3 hg3 hnil3 hat3
             have hcv := (BS.of_own (l := txtS _ x) (by rw [txtS_ref x HC.out, List.length_append]) (by rw [txtS_ref x HC.out, bys_append]; exact hown3)).conv (P := Tryd.prog) (ts := 9) Tryd.underlying38 Tryd.underlying5 Tryd.underlying9))
        have hb3 : Below w2.heap.size w2 w3 := below_app (HW.out.alloc HW.out.size _) (HO.out.alloc _) hg3 (Nat.le_refl _) (Nat.le_trans HW.out.size (by simp))
        have K2 := Lib.hid (hB2.out.trans (hb3.mono (by have := hlow2.out; omega)))
        go_ret
        exact ⟨rfl, K2.out⟩
end Go.Proofs.YtpomobeogkfmfaaDoor
