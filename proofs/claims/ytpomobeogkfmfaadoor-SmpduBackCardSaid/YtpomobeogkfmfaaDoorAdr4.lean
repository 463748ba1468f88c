/- Walks of package address and its reference: Random. -/
import Derived.Test.YtpomobeogkfmfaaDoorAdr3
import Derived.Deep.RegionLaw
namespace Go.Proofs.YtpomobeogkfmfaaDoor
open Go.RowKit

def rndK (k : Int) : Int := if 1 ≤ k ∧ k ≤ 4 then k else 0
def rndX (k : Int) (x : Nat) : Nat :=
  if k = 1 then x % 281474976710656 else if k = 2 then 211106232532992 + fitN (x % 70368744177664) 70368744177663
  else if k = 3 then 70368744177664 + fitN (x / 16777216 % 4194304) 4194303 * 16777216 + x % 16777216 else if k = 4 then fitN (x % 70368744177664) 70368744177663 else 0
theorem fitN_lt {n m : Nat} (h : n ≤ m) (hm : 1 < m) : 0 < fitN n m ∧ fitN n m < m := by
  unfold fitN
  split
  · omega
  · split <;> omega

set_option maxHeartbeats 1000000 in
theorem random_none (k : Int) (x : Nat) (hk : k < 1 ∨ 4 < k) (w : World) : Calls Tryd.prog 19 #[.int .i64 k, .int .u64 (x : Int)] w fun e w' => e = .returned (adr (rndK k) (rndX k x)) ∧ Below w.heap.size w w' := by
  have f1 : (k == 1) = false := neq_bool (by omega)
  have f2 : (k == 2) = false := neq_bool (by omega)
  have f3 : (k == 3) = false := neq_bool (by omega)
  have f4 : (k == 4) = false := neq_bool (by omega)
  have hv : adr (rndK k) (rndX k x) = adr 0 0 := by unfold rndK rndX; rw [if_neg (by omega), if_neg (by omega), if_neg (by omega), if_neg (by omega), if_neg (by omega)]
  rw [hv]
  clear hv
  go_enter Tryd.func19, Tryd.ntmps19
  go_wp2_with fail
  refine bodyPost_ret (v := adr 0 0) (by simp [results, Tryd.results19, go_sem]) rfl ?_
  exact ⟨rfl, al1 _ _⟩

set_option maxHeartbeats 1000000 in
theorem random_1 (x : Nat) (hx : x < 18446744073709551616) (w : World) : Calls Tryd.prog 19 #[.int .i64 1, .int .u64 (x : Int)] w fun e w' => e = .returned (adr (rndK 1) (rndX 1 x)) ∧ Below w.heap.size w w' := by
  have e := u64_low48 x hx
  have hv : adr (rndK 1) (rndX 1 x) = adr 1 (x % 281474976710656) := rfl
  rw [hv]
  clear hv
  go_enter Tryd.func19, Tryd.ntmps19
  go_wp2_with fail
  refine (mask48 _).mono ?_
  rintro e w1 ⟨rfl, rfl⟩
  go_wp2_with fail
  refine bodyPost_ret (v := adr 1 (x % 281474976710656)) (by simp [results, Tryd.results19, go_sem]) rfl ?_
  exact ⟨rfl, al1 _ _⟩

theorem or_high (p y : Nat) (hp : p < 4) (hy : y < 70368744177664) : bits .or .u64 ((p * 70368744177664 : Nat) : Int) (y : Int) = ((p * 70368744177664 + y : Nat) : Int) := by
  rw [u64_or_nat _ _ (by omega) (by omega)]
  have h := Nat.shiftLeft_add_eq_or_of_lt (b := y) (i := 46) hy p
  rw [Nat.shiftLeft_eq] at h
  rw [show p * 70368744177664 = p * 2 ^ 46 by rfl, ← h]

set_option maxHeartbeats 1000000 in
theorem random_2 (x : Nat) (hx : x < 18446744073709551616) (w : World) (hT : ATab w) : Calls Tryd.prog 19 #[.int .i64 2, .int .u64 (x : Int)] w fun e w' => e = .returned (adr (rndK 2) (rndX 2 x)) ∧ Below w.heap.size w w' := by
  have hT1 := hT.keep (al1 w (.cells #[.int .i64 0, .int .u64 0] 24))
  have hp0 : (w.alloc (.cells #[.int .i64 0, .int .u64 0] 24)).cell? ⟨0, 2, none⟩ = some (.int .u64 3) := (hT1.2 2 (by omega)).1
  have hlt := hT.1
  have hf := fitN_lt (n := x % 70368744177664) (m := 70368744177663) (by omega) (by omega)
  have e := or_high 3 (fitN (x % 70368744177664) 70368744177663) (by omega) (by omega)
  have hv : rndX 2 x = 3 * 70368744177664 + fitN (x % 70368744177664) 70368744177663 := rfl
  rw [hv]
  clear hT hT1 hv
  go_enter Tryd.func19, Tryd.ntmps19
  go_wp2_with fail
  go_region_law (first | (go_simp; refine (fit46 x hx _).mono ?_; rintro e w1 ⟨rfl, rfl⟩; go_simp))
  all_goals
    go_wp2_with fail
    rw [show IntKind.u64.wrap 211106232532992 = ((3 * 70368744177664 : Nat) : Int) from rfl, e]
    refine bodyPost_ret (v := adr 2 (3 * 70368744177664 + fitN (x % 70368744177664) 70368744177663)) (by simp [results, Tryd.results19, go_sem]) rfl ?_
    exact ⟨rfl, below_drewN (al1 _ _) 1⟩

set_option maxHeartbeats 1000000 in
theorem random_4 (x : Nat) (hx : x < 18446744073709551616) (w : World) (hT : ATab w) : Calls Tryd.prog 19 #[.int .i64 4, .int .u64 (x : Int)] w fun e w' => e = .returned (adr (rndK 4) (rndX 4 x)) ∧ Below w.heap.size w w' := by
  have hT1 := hT.keep (al1 w (.cells #[.int .i64 0, .int .u64 0] 24))
  have hp0 : (w.alloc (.cells #[.int .i64 0, .int .u64 0] 24)).cell? ⟨0, 4, none⟩ = some (.int .u64 0) := (hT1.2 4 (by omega)).1
  have hlt := hT.1
  have hf := fitN_lt (n := x % 70368744177664) (m := 70368744177663) (by omega) (by omega)
  have e := or_high 0 (fitN (x % 70368744177664) 70368744177663) (by omega) (by omega)
  rw [Nat.zero_mul, Nat.zero_add] at e
  have hv : rndX 4 x = fitN (x % 70368744177664) 70368744177663 := rfl
  rw [hv]
  clear hT hT1 hv
  go_enter Tryd.func19, Tryd.ntmps19
  go_wp2_with fail
  go_region_law (first | (go_simp; refine (fit46 x hx _).mono ?_; rintro e w1 ⟨rfl, rfl⟩; go_simp))
  all_goals
    go_wp2_with fail
    rw [show IntKind.u64.wrap 0 = ((0 : Nat) : Int) from rfl, e]
    refine bodyPost_ret (v := adr 4 (fitN (x % 70368744177664) 70368744177663)) (by simp [results, Tryd.results19, go_sem]) rfl ?_
    exact ⟨rfl, below_drewN (al1 _ _) 1⟩

theorem fit22d (x : Nat) (hx : x < 18446744073709551616) (w : World) : Calls Tryd.prog 42 #[.int .u64 ((x : Int) / 16777216), .int .i64 22] w fun e w' => e = .returned (.int .u64 (fitN (x / 16777216 % 4194304) 4194303 : Nat)) ∧ w = w' :=
  fit22 (x / 16777216) (by omega) w
theorem or_mid (f : Nat) (hf : f < 4194304) : bits .or .u64 (70368744177664 : Int) ((f * 16777216 : Nat) : Int) = ((70368744177664 + f * 16777216 : Nat) : Int) := by
  have h := or_high 1 (f * 16777216) (by omega) (by omega)
  simpa using h
theorem or_low (f y : Nat) (hf : f < 4194304) (hy : y < 16777216) : bits .or .u64 ((70368744177664 + f * 16777216 : Nat) : Int) (y : Int) = ((70368744177664 + f * 16777216 + y : Nat) : Int) := by
  rw [u64_or_nat _ _ (by omega) (by omega)]
  have h := Nat.shiftLeft_add_eq_or_of_lt (b := y) (i := 24) hy (4194304 + f)
  rw [Nat.shiftLeft_eq] at h
  have e : 70368744177664 + f * 16777216 = (4194304 + f) * 2 ^ 24 := by omega
  rw [e, ← h]

set_option maxHeartbeats 1000000 in
theorem random_3 (x : Nat) (hx : x < 18446744073709551616) (w : World) (hT : ATab w) : Calls Tryd.prog 19 #[.int .i64 3, .int .u64 (x : Int)] w fun e w' => e = .returned (adr (rndK 3) (rndX 3 x)) ∧ Below w.heap.size w w' := by
  have hT1 := hT.keep (al1 w (.cells #[.int .i64 0, .int .u64 0] 24))
  have hp0 : (w.alloc (.cells #[.int .i64 0, .int .u64 0] 24)).cell? ⟨0, 3, none⟩ = some (.int .u64 1) := (hT1.2 3 (by omega)).1
  have hlt := hT.1
  have hf := fitN_lt (n := x / 16777216 % 4194304) (m := 4194303) (by omega) (by omega)
  have F := Lib.hid (fit22d x hx)
  have hv : rndX 3 x = 70368744177664 + fitN (x / 16777216 % 4194304) 4194303 * 16777216 + x % 16777216 := rfl
  rw [hv]
  generalize fitN (x / 16777216 % 4194304) 4194303 = f at *
  have e1 := or_mid f (by omega)
  have e2 := or_low f (x % 16777216) (by omega) (by omega)
  have e3 := u64_low24 x hx
  have e4 : IntKind.u64.wrap ((f : Int) * 16777216) = ((f * 16777216 : Nat) : Int) := by rw [IntKind.wrap_u64]; omega
  have E := Lib.hid (And.intro e1 (And.intro e2 (And.intro e3 e4)))
  clear hT hT1 hv e1 e2 e3 e4
  go_enter Tryd.func19, Tryd.ntmps19
  go_wp2_with fail
  go_region_law (first | (go_simp; refine (F.out _).mono ?_; rintro e w1 ⟨rfl, rfl⟩; go_simp) | (go_simp; refine (mask24 _).mono ?_; rintro e w1 ⟨rfl, rfl⟩; go_simp))
  all_goals
    go_wp2_with fail
    rw [show IntKind.u64.wrap 70368744177664 = (70368744177664 : Int) from rfl, E.out.2.2.2, E.out.1, E.out.2.2.1, E.out.2.1]
    refine bodyPost_ret (v := adr 3 (70368744177664 + f * 16777216 + x % 16777216)) (by simp [results, Tryd.results19, go_sem]) rfl ?_
    exact ⟨rfl, below_drewN (al1 _ _) 1⟩

/-- address.Random returns the address of a kind that is made of a number. -/
theorem random_any (k : Int) (x : Nat) (hx : x < 18446744073709551616) (w : World) (hT : ATab w) : Calls Tryd.prog 19 #[.int .i64 k, .int .u64 (x : Int)] w fun e w' => e = .returned (adr (rndK k) (rndX k x)) ∧ Below w.heap.size w w' := by
  by_cases h : k < 1 ∨ 4 < k
  · exact random_none k x h w
  · obtain rfl | rfl | rfl | rfl : k = 1 ∨ k = 2 ∨ k = 3 ∨ k = 4 := by omega
    · exact random_1 x hx w
    · exact random_2 x hx w hT
    · exact random_3 x hx w hT
    · exact random_4 x hx w hT
end Go.Proofs.YtpomobeogkfmfaaDoor
