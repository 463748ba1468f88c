/- Walks of package address and its reference: the reference's Compare; fit, Random. -/
import Derived.Test.YtpomobeogkfmfaaDoorAdr2
namespace Go.Proofs.YtpomobeogkfmfaaDoor
open Go.RowKit

set_option maxHeartbeats 1000000 in
theorem rcompare_any (k : Int) (x : Nat) (k' : Int) (x' : Nat) (w : World) : Calls Tryd.prog 26 #[adr k x, adr k' x'] w fun e w' => e = .returned (.int .i64 (cmpA k x k' x')) ∧ Below w.heap.size w w' := by
  have hb := al2 w (.cells #[.int .i64 k, .int .u64 (x : Int)] 24) (.cells #[.int .i64 k', .int .u64 (x' : Int)] 24)
  rcases Int.lt_trichotomy k k' with h | h | h
  · have hv : cmpA k x k' x' = -1 := by unfold cmpA cmpI; simp [h]
    rw [hv]
    clear hv
    have f1 : (k == k') = false := neq_bool (by omega)
    go_enter Tryd.func26, Tryd.ntmps26
    go_wp2_with fail
    go_ret
    exact ⟨rfl, hb⟩
  · subst h
    rcases Int.lt_trichotomy (x : Int) (x' : Int) with h | h | h
    · have hv : cmpA k x k x' = -1 := by unfold cmpA cmpI; simp; omega
      rw [hv]
      clear hv
      have f1 : ((x : Int) == x') = false := neq_bool (by omega)
      go_enter Tryd.func26, Tryd.ntmps26
      go_wp2_with fail
      go_ret
      exact ⟨rfl, hb⟩
    · obtain rfl : x = x' := by omega
      have hv : cmpA k x k x = 0 := by unfold cmpA cmpI; simp
      rw [hv]
      clear hv
      go_enter Tryd.func26, Tryd.ntmps26
      go_wp2_with fail
      go_ret
      exact ⟨rfl, hb⟩
    · have hv : cmpA k x k x' = 1 := by unfold cmpA cmpI; simp; omega
      rw [hv]
      clear hv
      have f1 : ((x : Int) == x') = false := neq_bool (by omega)
      have f2 : ¬ (x : Int) < x' := by omega
      go_enter Tryd.func26, Tryd.ntmps26
      go_wp2_with fail
      go_ret
      exact ⟨rfl, hb⟩
  · have h' : ¬ k < k' := by omega
    have hv : cmpA k x k' x' = 1 := by unfold cmpA cmpI; simp [h, h']
    rw [hv]
    clear hv
    have f1 : (k == k') = false := neq_bool (by omega)
    go_enter Tryd.func26, Tryd.ntmps26
    go_wp2_with fail
    go_ret
    exact ⟨rfl, hb⟩

theorem u64_low22' (a : Nat) (ha : a < 18446744073709551616) : bits .and .u64 (a : Int) 4194303 = ((a % 4194304 : Nat) : Int) := u64_low a 22 ha (by omega)

/-- The random part that is made of a number. -/
def fitN (n most : Nat) : Nat := if n = 0 then 1 else if n = most then most - 1 else n

theorem rfit_any (n most : Nat) (h0 : 0 < most) (hm : most < 18446744073709551616) (w : World) : Calls Tryd.prog 43 #[.int .u64 (n : Int), .int .u64 (most : Int)] w fun e w' => e = .returned (.int .u64 (fitN n most : Nat)) ∧ w = w' := by
  have fw : IntKind.u64.wrap ((most : Int) - 1) = ((most - 1 : Nat) : Int) := by rw [IntKind.wrap_u64]; omega
  by_cases h1 : n = 0
  · subst h1
    go_enter Tryd.func43, Tryd.ntmps43
    go_wp2_with fail
    go_ret
    exact ⟨rfl, rfl⟩
  · have f1 : ((n : Int) == 0) = false := neq_bool (by omega)
    by_cases h2 : n = most
    · have f2 : ((n : Int) == most) = true := eqq_bool (by omega)
      have hv : fitN n most = most - 1 := by unfold fitN; rw [if_neg h1, if_pos h2]
      rw [hv]
      clear hv
      go_enter Tryd.func43, Tryd.ntmps43
      go_wp2_with fail
      go_ret
      exact ⟨by simp, rfl⟩
    · have f2 : ((n : Int) == most) = false := neq_bool (by omega)
      have hv : fitN n most = n := by unfold fitN; rw [if_neg h1, if_neg h2]
      rw [hv]
      clear hv
      go_enter Tryd.func43, Tryd.ntmps43
      go_wp2_with fail
      go_ret
      exact ⟨rfl, rfl⟩

set_option maxHeartbeats 1000000 in
theorem fit46 (x : Nat) (hx : x < 18446744073709551616) (w : World) : Calls Tryd.prog 42 #[.int .u64 (x : Int), .int .i64 46] w fun e w' => e = .returned (.int .u64 (fitN (x % 70368744177664) 70368744177663 : Nat)) ∧ w = w' := by
  have e := u64_low46 x hx
  have hlt : x % 70368744177664 < 70368744177664 := Nat.mod_lt _ (by omega)
  generalize x % 70368744177664 = n at *
  generalize (x : Int) = y at *
  by_cases h1 : n = 0
  · subst h1
    go_enter Tryd.func42, Tryd.ntmps42
    go_wp2_with fail
    refine (mask46 w).mono ?_
    rintro e w1 ⟨rfl, rfl⟩
    go_wp2_with fail
    refine (mask46 w).mono ?_
    rintro e w1 ⟨rfl, rfl⟩
    go_wp2_with fail
    go_ret
    exact ⟨rfl, rfl⟩
  · by_cases h2 : n = 70368744177663
    · subst h2
      go_enter Tryd.func42, Tryd.ntmps42
      go_wp2_with fail
      refine (mask46 w).mono ?_
      rintro e w1 ⟨rfl, rfl⟩
      go_wp2_with fail
      refine (mask46 w).mono ?_
      rintro e w1 ⟨rfl, rfl⟩
      go_wp2_with fail
      go_ret
      exact ⟨rfl, rfl⟩
    · have hv : fitN n 70368744177663 = n := by unfold fitN; rw [if_neg h1, if_neg h2]
      rw [hv]
      clear hv
      have g1 : ¬ ((n : Int) < 1) := by omega
      have g2 : ¬ ((70368744177662 : Int) < n) := by omega
      go_enter Tryd.func42, Tryd.ntmps42
      go_wp2_with fail
      refine (mask46 w).mono ?_
      rintro e w1 ⟨rfl, rfl⟩
      go_wp2_with fail
      refine (mask46 w).mono ?_
      rintro e w1 ⟨rfl, rfl⟩
      go_wp2_with fail
      go_ret
      exact ⟨rfl, rfl⟩

set_option maxHeartbeats 1000000 in
theorem fit22 (x : Nat) (hx : x < 18446744073709551616) (w : World) : Calls Tryd.prog 42 #[.int .u64 ((x : Int)), .int .i64 22] w fun e w' => e = .returned (.int .u64 (fitN (x % 4194304) 4194303 : Nat)) ∧ w = w' := by
  have e := u64_low22' x hx
  have hlt : x % 4194304 < 4194304 := Nat.mod_lt _ (by omega)
  generalize x % 4194304 = n at *
  generalize ((x : Int)) = y at *
  by_cases h1 : n = 0
  · subst h1
    go_enter Tryd.func42, Tryd.ntmps42
    go_wp2_with fail
    refine (mask22 w).mono ?_
    rintro e w1 ⟨rfl, rfl⟩
    go_wp2_with fail
    refine (mask22 w).mono ?_
    rintro e w1 ⟨rfl, rfl⟩
    go_wp2_with fail
    go_ret
    exact ⟨rfl, rfl⟩
  · by_cases h2 : n = 4194303
    · subst h2
      go_enter Tryd.func42, Tryd.ntmps42
      go_wp2_with fail
      refine (mask22 w).mono ?_
      rintro e w1 ⟨rfl, rfl⟩
      go_wp2_with fail
      refine (mask22 w).mono ?_
      rintro e w1 ⟨rfl, rfl⟩
      go_wp2_with fail
      go_ret
      exact ⟨rfl, rfl⟩
    · have hv : fitN n 4194303 = n := by unfold fitN; rw [if_neg h1, if_neg h2]
      rw [hv]
      clear hv
      have g1 : ¬ ((n : Int) < 1) := by omega
      have g2 : ¬ ((4194302 : Int) < n) := by omega
      go_enter Tryd.func42, Tryd.ntmps42
      go_wp2_with fail
      refine (mask22 w).mono ?_
      rintro e w1 ⟨rfl, rfl⟩
      go_wp2_with fail
      refine (mask22 w).mono ?_
      rintro e w1 ⟨rfl, rfl⟩
      go_wp2_with fail
      go_ret
      exact ⟨rfl, rfl⟩

end Go.Proofs.YtpomobeogkfmfaaDoor
