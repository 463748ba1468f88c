/- Walks of the reference of package address: Random. -/
import Derived.Test.YtpomobeogkfmfaaDoorAdr4
namespace Go.Proofs.YtpomobeogkfmfaaDoor
open Go.RowKit

set_option maxHeartbeats 1000000 in
theorem rrandom_none (k : Int) (x : Nat) (hk : k < 1 ∨ 4 < k) (w : World) : Calls Tryd.prog 20 #[.int .i64 k, .int .u64 (x : Int)] w fun e w' => e = .returned (adr (rndK k) (rndX k x)) ∧ Below w.heap.size w w' := by
  have f1 : (k == 1) = false := neq_bool (by omega)
  have f2 : (k == 2) = false := neq_bool (by omega)
  have f3 : (k == 3) = false := neq_bool (by omega)
  have f4 : (k == 4) = false := neq_bool (by omega)
  have hv : adr (rndK k) (rndX k x) = adr 0 0 := by unfold rndK rndX; rw [if_neg (by omega), if_neg (by omega), if_neg (by omega), if_neg (by omega), if_neg (by omega)]
  rw [hv]
  clear hv
  go_enter Tryd.func20, Tryd.ntmps20
  go_wp2_with fail
  refine bodyPost_ret (v := adr 0 0) (by simp [results, Tryd.results20, go_sem]) rfl ?_
  exact ⟨rfl, al1 _ _⟩

set_option maxHeartbeats 1000000 in
theorem rrandom_1 (x : Nat) (w : World) : Calls Tryd.prog 20 #[.int .i64 1, .int .u64 (x : Int)] w fun e w' => e = .returned (adr (rndK 1) (rndX 1 x)) ∧ Below w.heap.size w w' := by
  have hv : adr (rndK 1) (rndX 1 x) = adr 1 (x % 281474976710656) := rfl
  rw [hv]
  clear hv
  go_enter Tryd.func20, Tryd.ntmps20
  go_wp2_with fail
  refine bodyPost_ret (v := adr 1 (x % 281474976710656)) (by simp [results, Tryd.results20, go_sem]) rfl ?_
  exact ⟨rfl, al1 _ _⟩

theorem rfit46 (x : Nat) (w : World) : Calls Tryd.prog 43 #[.int .u64 ((x : Int) % 70368744177664), .int .u64 70368744177663] w fun e w' => e = .returned (.int .u64 (fitN (x % 70368744177664) 70368744177663 : Nat)) ∧ w = w' :=
  rfit_any (x % 70368744177664) 70368744177663 (by omega) (by omega) w
theorem rfit22 (x : Nat) (w : World) : Calls Tryd.prog 43 #[.int .u64 ((x : Int) / 16777216 % 4194304), .int .u64 4194303] w fun e w' => e = .returned (.int .u64 (fitN (x / 16777216 % 4194304) 4194303 : Nat)) ∧ w = w' :=
  rfit_any (x / 16777216 % 4194304) 4194303 (by omega) (by omega) w

set_option maxHeartbeats 1000000 in
theorem rrandom_2 (x : Nat) (hx : x < 18446744073709551616) (w : World) : Calls Tryd.prog 20 #[.int .i64 2, .int .u64 (x : Int)] w fun e w' => e = .returned (adr (rndK 2) (rndX 2 x)) ∧ Below w.heap.size w w' := by
  have hf := fitN_lt (n := x % 70368744177664) (m := 70368744177663) (by omega) (by omega)
  have F := Lib.hid (rfit46 x)
  have hv : rndX 2 x = 3 * 70368744177664 + fitN (x % 70368744177664) 70368744177663 := by first | rfl | (rw [Nat.zero_mul, Nat.zero_add]; rfl)
  rw [hv]
  generalize fitN (x % 70368744177664) 70368744177663 = f at *
  have e4 : IntKind.u64.wrap (211106232532992 + (f : Int)) = ((3 * 70368744177664 + f : Nat) : Int) := by rw [IntKind.wrap_u64]; omega
  clear hv
  go_enter Tryd.func20, Tryd.ntmps20
  go_wp2_with fail
  refine (prefix2 _).mono ?_
  rintro e w1 ⟨rfl, rfl⟩
  go_wp2_with fail
  refine (F.out _).mono ?_
  rintro e w1 ⟨rfl, rfl⟩
  go_wp2_with fail
  refine bodyPost_ret (v := adr 2 (3 * 70368744177664 + f)) (by simp [results, Tryd.results20, go_sem]) rfl ?_
  exact ⟨rfl, al1 _ _⟩

set_option maxHeartbeats 1000000 in
theorem rrandom_4 (x : Nat) (hx : x < 18446744073709551616) (w : World) : Calls Tryd.prog 20 #[.int .i64 4, .int .u64 (x : Int)] w fun e w' => e = .returned (adr (rndK 4) (rndX 4 x)) ∧ Below w.heap.size w w' := by
  have hf := fitN_lt (n := x % 70368744177664) (m := 70368744177663) (by omega) (by omega)
  have F := Lib.hid (rfit46 x)
  have hv : rndX 4 x = 0 * 70368744177664 + fitN (x % 70368744177664) 70368744177663 := by first | rfl | (rw [Nat.zero_mul, Nat.zero_add]; rfl)
  rw [hv]
  generalize fitN (x % 70368744177664) 70368744177663 = f at *
  have e4 : IntKind.u64.wrap (0 + (f : Int)) = ((0 * 70368744177664 + f : Nat) : Int) := by rw [IntKind.wrap_u64]; omega
  clear hv
  go_enter Tryd.func20, Tryd.ntmps20
  go_wp2_with fail
  refine (prefix4 _).mono ?_
  rintro e w1 ⟨rfl, rfl⟩
  go_wp2_with fail
  refine (F.out _).mono ?_
  rintro e w1 ⟨rfl, rfl⟩
  go_wp2_with fail
  refine bodyPost_ret (v := adr 4 (0 * 70368744177664 + f)) (by simp [results, Tryd.results20, go_sem]) rfl ?_
  exact ⟨rfl, al1 _ _⟩

set_option maxHeartbeats 1000000 in
theorem rrandom_3 (x : Nat) (hx : x < 18446744073709551616) (w : World) : Calls Tryd.prog 20 #[.int .i64 3, .int .u64 (x : Int)] w fun e w' => e = .returned (adr (rndK 3) (rndX 3 x)) ∧ Below w.heap.size w w' := by
  have hf := fitN_lt (n := x / 16777216 % 4194304) (m := 4194303) (by omega) (by omega)
  have F := Lib.hid (rfit22 x)
  have hv : rndX 3 x = 70368744177664 + fitN (x / 16777216 % 4194304) 4194303 * 16777216 + x % 16777216 := rfl
  rw [hv]
  generalize fitN (x / 16777216 % 4194304) 4194303 = f at *
  have e1 : IntKind.u64.wrap ((f : Int) * 16777216) = (f : Int) * 16777216 := by rw [IntKind.wrap_u64]; omega
  have e2 : IntKind.u64.wrap (70368744177664 + (f : Int) * 16777216) = 70368744177664 + (f : Int) * 16777216 := by rw [IntKind.wrap_u64]; omega
  have e3 : IntKind.u64.wrap (70368744177664 + (f : Int) * 16777216 + (x : Int) % 16777216) = 70368744177664 + (f : Int) * 16777216 + (x : Int) % 16777216 := by rw [IntKind.wrap_u64]; omega
  clear hv
  go_enter Tryd.func20, Tryd.ntmps20
  go_wp2_with fail
  refine (F.out _).mono ?_
  rintro e w1 ⟨rfl, rfl⟩
  go_wp2_with fail
  refine bodyPost_ret (v := adr 3 (70368744177664 + f * 16777216 + x % 16777216)) (by simp [results, Tryd.results20, go_sem]) rfl ?_
  exact ⟨rfl, al1 _ _⟩

/-- The reference's Random returns the address of a kind that is made of a number. -/
theorem rrandom_any (k : Int) (x : Nat) (hx : x < 18446744073709551616) (w : World) : Calls Tryd.prog 20 #[.int .i64 k, .int .u64 (x : Int)] w fun e w' => e = .returned (adr (rndK k) (rndX k x)) ∧ Below w.heap.size w w' := by
  by_cases h : k < 1 ∨ 4 < k
  · exact rrandom_none k x h w
  · obtain rfl | rfl | rfl | rfl : k = 1 ∨ k = 2 ∨ k = 3 ∨ k = 4 := by omega
    · exact rrandom_1 x w
    · exact rrandom_2 x hx w
    · exact rrandom_3 x hx w
    · exact rrandom_4 x hx w
end Go.Proofs.YtpomobeogkfmfaaDoor
