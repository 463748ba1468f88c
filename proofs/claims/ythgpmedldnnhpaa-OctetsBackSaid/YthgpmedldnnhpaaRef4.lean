/- Walks of the reference of octets: Xor, Hex, digit, SameNumbers. -/
import Derived.Test.YthgpmedldnnhpaaOct7
import Derived.Test.YthgpmedldnnhpaaRef2
namespace Go.Proofs.Ythgpmedldnnhpaa
open Go.RowKit

theorem xorS_take {l k : List UInt8} {j : Nat} (h1 : j < l.length) (h2 : j < k.length) : (xorS l k).take (j + 1) = (xorS l k).take j ++ [l[j] ^^^ k[j]] := by
  have h : j < (xorS l k).length := by rw [xorS_length]; omega
  rw [List.take_succ_eq_append_getElem h]
  simp [xorS]

set_option maxRecDepth 100000 in
set_option maxHeartbeats 1000000 in
theorem refxor_any (l k : List UInt8) (A : Option Addr) (c : Nat) (A' : Option Addr) (c' : Nat) (w : World) (ha : BS w w.heap.size (.slice A l.length c) l) (hb : BS w w.heap.size (.slice A' k.length c') k) (hl : l.length ≤ 140737488355327) (_hk : k.length ≤ 140737488355327) :
    Calls Try.prog 19 #[.slice A l.length c, .slice A' k.length c'] w (BytesPost w (xorS l k)) := by
  have HA := Lib.hid ha
  have HB := Lib.hid hb
  clear ha hb
  go_enter Try.func19, Try.ntmps19
  go_wp2_with fail
  go_loopw [5, 6] (fun v i wr => ∃ j : Nat, j ≤ l.length ∧ j ≤ k.length ∧ i = .int .i64 j ∧ wr.ownsRow w.heap.size 5 1 v j (bys ((xorS l k).take j)) ∧ Below w.heap.size w wr) (fun _ i _ => l.length - (intOf i).toNat)
  case atStart => exact ⟨0, Nat.zero_le _, Nat.zero_le _, rfl, by simpa [bys] using World.ownsRow_lit (base := w.heap.size) (e := 5) (size := 1) w #[] 0 (Nat.le_refl _) (by simp [maxLen]) rfl, al1 _ _⟩
  case round =>
    obtain ⟨j, hj1, hj2, rfl, hown, hbel⟩ := hrel
    obtain ⟨wo, rfl⟩ : ∃ wo : World, wo = wr := ⟨_, rfl⟩
    have HO := Lib.hid hown
    have HW := Lib.hid hbel
    clear hown hbel
    by_cases hlt : j < l.length
    · by_cases hlt2 : j < k.length
      · obtain ⟨b1, o1, rfl, hB1, hc1⟩ := (HA.out.below HW.out).cells (bys_at hlt)
        obtain ⟨b2, o2, rfl, hB2, hc2⟩ := (HB.out.below HW.out).cells (bys_at hlt2)
        have d1 := hc1 j _ (bys_at hlt)
        have d2 := hc2 j _ (bys_at hlt2)
        have hst := xorS_take hlt hlt2
        have hx := xor_u8 l[j] k[j]
        generalize l[j] = x at *
        generalize k[j] = y at *
        generalize hz : x ^^^ y = z at *
        have HST := Lib.hid hst
        clear hst hc1 hc2 hz
        have hlen : ((xorS l k).take j).length = j := by rw [List.length_take, xorS_length]; omega
        go_wp2_with fail
        go_region_law (first
          | (refine step_sl _ elB rfl (.tmp 20) (.tmp 30) rfl rfl (own_drew (HO.out.alloc _)) rfl (Sl.drew (Sl.lit _ _ _ 1 rfl (by simp [maxLen]))) ?_ ?_ ?_ ?_
             (case refine_1 => intro u hu; simp at hu; subst hu; rfl)
             (case refine_2 => omega)
             (case refine_3 => exact Nat.le_trans HW.out.size (by simp))
             intro v1 w1 hown1 hg1 hnil1 hat1))
        all_goals
          have hb1 : Below w.heap.size w w1 := below_app (HW.out.alloc HW.out.size _).drew (own_drew (HO.out.alloc _)) hg1 (Nat.le_refl _) (Nat.le_trans HW.out.size (by simp))
          have K1 := Lib.hid hown1
          have K5 := Lib.hid hb1
          clear hown1 hg1 hnil1 hat1 hb1
          go_wp2
          go_roundw
          case rel => exact ⟨j + 1, by omega, by omega, by go_num, by rw [HST.out, bys_append]; exact K1.out, K5.out⟩
          case measure => simp [intOf]; omega
      · have hd : decide ((j : Int) < (k.length : Int)) = false := by simp; omega
        go_wp2_with fail
        go_ret
        have e : (xorS l k).take j = xorS l k := List.take_of_length_le (by rw [xorS_length]; omega)
        have hh := HO.out
        rw [e] at hh
        exact ⟨HW.out, _, rfl, by rw [xorS_length, show min l.length k.length = j by omega]; exact hh⟩
    · have hd : decide ((j : Int) < (l.length : Int)) = false := by simp; omega
      go_wp2_with fail
      go_ret
      have e : (xorS l k).take j = xorS l k := List.take_of_length_le (by rw [xorS_length]; omega)
      have hh := HO.out
      rw [e] at hh
      exact ⟨HW.out, _, rfl, by rw [xorS_length, show min l.length k.length = j by omega]; exact hh⟩

set_option maxRecDepth 100000 in
set_option maxHeartbeats 1000000 in
theorem refhex_any (l : List UInt8) (A : Option Addr) (c : Nat) (w : World) (hb : BS w w.heap.size (.slice A l.length c) l) (hl : l.length ≤ 70368744177664) :
    Calls Try.prog 23 #[.slice A l.length c] w (StrPost w (hexS l)) := by
  have HA := Lib.hid hb
  clear hb
  go_enter Try.func23, Try.ntmps23
  go_wp2_with fail
  go_loopw [3, 4] (fun v i wr => ∃ j : Nat, j ≤ l.length ∧ i = .int .i64 j ∧ wr.ownsRow w.heap.size 5 1 v (2 * j) (bys (hexS (l.take j))) ∧ Below w.heap.size w wr) (fun _ i _ => l.length - (intOf i).toNat)
  case atStart => exact ⟨0, Nat.zero_le _, rfl, by simpa [bys, hexS] using World.ownsRow_lit (base := w.heap.size) (e := 5) (size := 1) w #[] 0 (Nat.le_refl _) (by simp [maxLen]) rfl, al1 _ _⟩
  case round =>
    obtain ⟨j, hj, rfl, hown, hbel⟩ := hrel
    obtain ⟨wo, rfl⟩ : ∃ wo : World, wo = wr := ⟨_, rfl⟩
    have HO := Lib.hid hown
    have HW := Lib.hid hbel
    clear hown hbel
    by_cases hlt : j < l.length
    · obtain ⟨b1, o1, rfl, hB1, hc1⟩ := (HA.out.below HW.out).cells (bys_at hlt)
      have d1 := hc1 j _ (bys_at hlt)
      have hx := l[j].toNat_lt
      generalize hxj : l[j].toNat = y at *
      have HX := Lib.hid hxj
      have hx255 : y ≤ 255 := by omega
      have g1 : (0 : Int) ≤ (y : Int) / 16 := by omega
      have g2 : (y : Int) / 16 < 16 := by omega
      have g3 : (0 : Int) ≤ (y : Int) % 16 := by omega
      have g4 : (y : Int) % 16 < 16 := by omega
      have g5 : ((y : Int) / 16).toNat = y / 16 := by omega
      have g6 : ((y : Int) % 16).toNat = y % 16 := by omega
      have g8 : IntKind.u8.wrap ((y : Int) / 16) = (y : Int) / 16 := by rw [IntKind.wrap_u8]; omega
      have g9 : (y : Int).tmod 16 = (y : Int) % 16 := Int.tmod_eq_emod_of_nonneg (by omega)
      clear hc1 hxj hx
      go_wp2_with fail
      go_region_law (first
        | (refine step_sl _ elB rfl (.tmp 12) (.tmp 25) rfl rfl (own_drew (HO.out.alloc _)) rfl (Sl.drew (Sl.lit _ _ _ 2 rfl (by simp [maxLen]))) ?_ ?_ ?_ ?_
           (case refine_1 => intro u hu; simp at hu; rcases hu with rfl | rfl <;> rfl)
           (case refine_2 => omega)
           (case refine_3 => exact Nat.le_trans HW.out.size (by simp))
           intro v1 w1 hown1 hg1 hnil1 hat1))
      all_goals
        have hb1 : Below w.heap.size w w1 := below_app (HW.out.alloc HW.out.size _).drew (own_drew (HO.out.alloc _)) hg1 (Nat.le_refl _) (Nat.le_trans HW.out.size (by simp))
        rw [List.toList_toArray, hexB_dig, hexB_dig] at hown1
        have K1 := Lib.hid hown1
        have K5 := Lib.hid hb1
        clear hown1 hg1 hnil1 hat1 hb1
        go_wp2
        go_roundw
        case rel => exact ⟨j + 1, by omega, by go_num, by rw [hexS_take hlt, HX.out, bys_append]; exact K1.out, K5.out⟩
        case measure => simp [intOf]; omega
    · obtain rfl : j = l.length := by omega
      have hh := HO.out
      rw [List.take_length] at hh
      have hbs := BS.of_own (hexS_length l).symm hh
      have hcv := hbs.conv (P := Try.prog) (ts := 9) Try.underlying23 Try.underlying5 Try.underlying9
      clear hh hbs
      go_wp2
      go_ret
      exact ⟨HW.out, rfl⟩

/-- What digit returns. -/
def digV (c : UInt8) : Int := if nib c < 16 then (nib c : Int) else -1

set_option maxRecDepth 100000 in
set_option maxHeartbeats 400000 in
theorem digit_any (c : UInt8) (w : World) : Calls Try.prog 29 #[.int .u8 (c.toNat : Int)] w fun e w' => e = .returned (.int .i64 (digV c)) ∧ w = w' := by
  go_enter Try.func29, Try.ntmps29
  go_wp2_with fail
  go_loop [3] (fun i => ∃ j : Nat, j ≤ 16 ∧ i = .int .i64 j ∧ NotBefore c j) (fun i => 16 - (intOf i).toNat)
  case atStart => exact ⟨0, by omega, rfl, fun j _ h => absurd h (by omega)⟩
  case round =>
    obtain ⟨j, hj, rfl, hb⟩ := hrel
    have HB := Lib.hid hb
    clear hb
    by_cases hlt : j < 16
    · go_wp2_with fail
      · have ht := ‹((_ : Int) == ((c.toNat : Nat) : Int)) = true›
        rw [hexB_at j hlt hlt] at ht
        have hc : hexD[j]'hlt = c := UInt8.toNat_inj.1 (by have := beq_iff_eq.1 ht; omega)
        have hn := nib_at hlt hc
        go_ret
        refine ⟨?_, rfl⟩
        unfold digV
        rw [hn, if_pos hlt]
        rfl
      · have ht := ‹((_ : Int) == ((c.toNat : Nat) : Int)) = false›
        rw [hexB_at j hlt hlt] at ht
        have hc : hexD[j]'hlt ≠ c := fun e => by rw [e] at ht; simp at ht
        have HC := Lib.hid hc
        clear ht hc
        go_round
        case rel => exact ⟨j + 1, by omega, by go_num, fun i h hi => by
          rcases Nat.lt_or_ge i j with h1 | h1
          · exact HB.out i h h1
          · obtain rfl : i = j := by omega
            exact HC.out⟩
        case measure => simp [intOf]; omega
    · go_wp2_with fail
      go_ret
      refine ⟨?_, rfl⟩
      obtain rfl : j = 16 := by omega
      unfold digV
      rw [nib_none HB.out, if_neg (by omega)]
      rfl

set_option maxRecDepth 100000 in
set_option maxHeartbeats 400000 in
theorem samenum_any (l k : List Nat) (a b : Value) (w : World) (B : Nat) (ha : Sl w B 1 a l.length (nums l)) (hb : Sl w B 1 b k.length (nums k)) :
    Calls Try.prog 16 #[a, b] w fun e w' => e = .returned (.bool (decide (l = k))) ∧ ∃ n, w' = w.drewN n := by
  obtain ⟨A, c, rfl, _⟩ := id ha
  obtain ⟨A', c', rfl, _⟩ := id hb
  have hcap := ha.cap
  have HA := Lib.hid ha
  have HB := Lib.hid hb
  clear ha hb
  have hlm : l.length ≤ 9223372036854775807 := by have := hcap.1; have := hcap.2; unfold maxLen at *; omega
  clear hcap
  by_cases hlen : l.length = k.length
  · have hne : ((l.length : Int) != (k.length : Int)) = false := by rw [hlen]; simp
    have HL := Lib.hid hlen
    have hkl : l.length ≤ k.length := by omega
    clear hlen
    go_enter Try.func16, Try.ntmps16
    go_wp2_with fail
    go_loopw [5] (fun i wr => ∃ j n : Nat, j ≤ l.length ∧ i = .int .i64 j ∧ l.take j = k.take j ∧ wr = w.drewN n) (fun i _ => l.length - (intOf i).toNat)
    case atStart => exact ⟨0, 0, Nat.zero_le _, rfl, rfl, rfl⟩
    case round =>
      obtain ⟨j, n, hj, rfl, htk, rfl⟩ := hrel
      have HT := Lib.hid htk
      clear htk
      by_cases hlt : j < l.length
      · obtain ⟨b1, o1, rfl, hB1, hc1⟩ := HA.out.cells (nums_at hlt)
        obtain ⟨b2, o2, rfl, hB2, hc2⟩ := HB.out.cells (nums_at (show j < k.length by omega))
        have d1 := hc1 j _ (nums_at hlt)
        have d2 := hc2 j _ (nums_at (by omega))
        clear hc1 hc2
        generalize hx : l[j] = x at *
        generalize hy : k[j] = y at *
        have HX := Lib.hid hx
        have HY := Lib.hid hy
        clear hx hy
        by_cases hxy : x = y
        · subst hxy
          go_wp2_with fail
          go_quiet (fail)
          go_wp2_with fail
          go_roundw
          case rel => exact ⟨j + 1, _, by omega, by go_num, by
            rw [List.take_succ_eq_append_getElem hlt, List.take_succ_eq_append_getElem (show j < k.length by omega), HT.out, HX.out, HY.out], rfl⟩
          case measure => simp [intOf]; omega
        · have hxy' : ((x : Int) != (y : Int)) = true := by rw [bne_iff_ne]; omega
          have hd : decide (l = k) = false := by
            rw [decide_eq_false]
            rintro rfl
            exact hxy (HX.out.symm.trans HY.out)
          have HD := Lib.hid hd
          clear hd
          go_wp2_with fail
          go_quiet (fail)
          go_wp2_with fail
          go_ret
          exact ⟨by rw [HD.out]; rfl, _, World.drewN_drewN _ _ _⟩
      · obtain rfl : j = l.length := by omega
        have hd : decide (l = k) = true := by
          rw [decide_eq_true]
          have h := HT.out
          rw [List.take_length, List.take_of_length_le (by have := HL.out; omega)] at h
          exact h
        have HD := Lib.hid hd
        clear hd
        go_wp2_with fail
        go_ret
        exact ⟨by rw [HD.out]; rfl, _, rfl⟩
  · have hne : ((l.length : Int) != (k.length : Int)) = true := by rw [bne_iff_ne]; omega
    have hd : decide (l = k) = false := by rw [decide_eq_false]; rintro rfl; exact hlen rfl
    have HD := Lib.hid hd
    clear hd
    go_enter Try.func16, Try.ntmps16
    go_wp2_with fail
    go_ret
    exact ⟨by rw [HD.out]; rfl, 0, rfl⟩
end Go.Proofs.Ythgpmedldnnhpaa
