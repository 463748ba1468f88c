/- Walks of the reference of octets: Power, Low, Num, Value. -/
import Derived.Test.YthgpmedldnnhpaaOct3
namespace Go.Proofs.Ythgpmedldnnhpaa
open Go.RowKit

theorem int_ext {k : IntKind} {a b : Int} (h : a = b) : Value.int k a = Value.int k b := by rw [h]

set_option maxHeartbeats 400000 in
theorem power_any (b : Nat) (w : World) (hb : b ≤ 63) : Calls Try.prog 30 #[.int .i64 b] w fun e w' => e = .returned (.int .u64 ((2 ^ b : Nat) : Int)) ∧ w = w' := by
  go_enter Try.func30, Try.ntmps30
  go_wp2_with fail
  go_loop [3, 4] (fun p i => ∃ j : Nat, j ≤ b ∧ i = .int .i64 j ∧ p = .int .u64 ((2 ^ j : Nat) : Int)) (fun _ i => b - (intOf i).toNat)
  case atStart => exact ⟨0, Nat.zero_le _, rfl, rfl⟩
  case round =>
    obtain ⟨j, hj, rfl, rfl⟩ := hrel
    by_cases hlt : j < b
    · have h2 : 2 ^ (j + 1) ≤ 2 ^ 63 := Nat.pow_le_pow_right (by omega) (by omega)
      have h3 : 2 ^ (j + 1) = 2 * 2 ^ j := by rw [Nat.pow_succ]; omega
      generalize hp : 2 ^ j = p at *
      have HP := Lib.hid hp
      have H3 := Lib.hid h3
      have h4 : p ≤ 4611686018427387904 := by omega
      clear h2 h3 hp
      go_wp2_with fail
      go_round
      case rel => exact ⟨j + 1, by omega, by go_num, by rw [H3.out]; go_num⟩
      case measure => simp [intOf]; omega
    · obtain rfl : j = b := by omega
      generalize hp : 2 ^ j = p at *
      have HP := Lib.hid hp
      clear hp
      go_wp2_with fail
      go_ret
      exact ⟨ret_int (by rw [← HP.out]; simp), rfl⟩

set_option maxHeartbeats 400000 in
theorem low_any (x b : Nat) (w : World) (hb : b ≤ 64) (hx : x < 2 ^ 64) : Calls Try.prog 25 #[.int .u64 (x : Int), .int .i64 b] w fun e w' => e = .returned (.int .u64 ((x % 2 ^ b : Nat) : Int)) ∧ w = w' := by
  by_cases h63 : 63 < b
  · obtain rfl : b = 64 := by omega
    go_enter Try.func25, Try.ntmps25
    go_wp2_with fail
    go_ret
    exact ⟨ret_int (by rw [Nat.mod_eq_of_lt hx]), rfl⟩
  · have hx' : x ≤ 18446744073709551615 := by omega
    have HX := Lib.hid hx
    clear hx
    have hp0 : 1 ≤ 2 ^ b := Nat.one_le_two_pow
    have hp1 : 2 ^ b ≤ 2 ^ 63 := Nat.pow_le_pow_right (by omega) (by omega)
    go_enter Try.func25, Try.ntmps25
    go_wp2_with fail
    refine (power_any b _ (by omega)).mono ?_
    rintro e w1 ⟨rfl, rfl⟩
    generalize hp : 2 ^ b = p at *
    have HP := Lib.hid hp
    clear hp
    go_wp2_with fail
    go_ret
    exact ⟨ret_int (by rw [HP.out]; simp), rfl⟩

theorem le_step (x i : Nat) : x / 2 ^ (8 * i) / 256 = x / 2 ^ (8 * (i + 1)) := by
  rw [Nat.div_div_eq_div_mul, Nat.mul_add, Nat.pow_add]

set_option maxRecDepth 100000 in
set_option maxHeartbeats 400000 in
theorem num_any (n x : Nat) (w : World) (hn : n ≤ 1099511627776) (hx : x < 2 ^ 64) : Calls Try.prog 26 #[.int .i64 n, .int .u64 (x : Int)] w (BytesPost w (le n x)) := by
  have hx' : x ≤ 18446744073709551615 := by omega
  clear hx
  go_enter Try.func26, Try.ntmps26
  go_wp2_with fail
  go_loopw [1, 5, 6] (fun y v i wr => ∃ j : Nat, j ≤ n ∧ i = .int .i64 j ∧ y = .int .u64 ((x / 2 ^ (8 * j) : Nat) : Int) ∧ wr.ownsRow w.heap.size 5 1 v j (bys (le j x)) ∧ Below w.heap.size w wr) (fun _ _ i _ => n - (intOf i).toNat)
  case atStart => exact ⟨0, Nat.zero_le _, rfl, by simp, by simpa [le, bys] using World.ownsRow_lit (base := w.heap.size) (e := 5) (size := 1) w #[] 0 (Nat.le_refl _) (by simp [maxLen]) rfl, al1 _ _⟩
  case round =>
    obtain ⟨j, hj, rfl, rfl, hown, hbel⟩ := hrel
    obtain ⟨wo, rfl⟩ : ∃ wo : World, wo = wr := ⟨_, rfl⟩
    have HO := Lib.hid hown
    have HW := Lib.hid hbel
    clear hown hbel
    by_cases hlt : j < n
    · have hy : x / 2 ^ (8 * j) ≤ 18446744073709551615 := Nat.le_trans (Nat.div_le_self _ _) hx'
      generalize hyd : x / 2 ^ (8 * j) = y at *
      have HY := Lib.hid hyd
      clear hyd
      go_wp2_with (first
        | (at_builtin
           refine app_sl _ elB rfl (.tmp 13) (.tmp 17) rfl rfl (HO.out.alloc _) rfl (Sl.lit _ _ _ 1 rfl (by simp [maxLen])) ?_ ?_ ?_ ?_
           (case refine_1 => intro u hu; simp at hu; subst hu; rfl)
           (case refine_2 => omega)
           (case refine_3 => exact Nat.le_trans HW.out.size (by simp))
           intro v1 w1 hown1 hg1 hnil1 hat1))
      have hb1 : Below w.heap.size w w1 := below_app (HW.out.alloc HW.out.size _) (HO.out.alloc _) hg1 (Nat.le_refl _) (Nat.le_trans HW.out.size (by simp))
      have K1 := Lib.hid hown1
      have K5 := Lib.hid hb1
      clear hown1 hg1 hnil1 hat1 hb1
      go_wp2
      go_roundw
      case rel => exact ⟨j + 1, by omega, by go_num, by rw [← le_step, HY.out]; go_num, by
        have := K1.out
        rw [le_succ, HY.out, bys_append]
        simpa [bys] using this, K5.out⟩
      case measure => simp [intOf]; omega
    · obtain rfl : j = n := by omega
      go_wp2_with fail
      go_ret
      exact ⟨HW.out, _, rfl, by rw [le_length]; exact HO.out⟩

end Go.Proofs.Ythgpmedldnnhpaa
