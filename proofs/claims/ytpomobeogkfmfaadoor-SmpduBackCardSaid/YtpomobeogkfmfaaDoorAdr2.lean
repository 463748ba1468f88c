/- Walks of package address and its reference: Compare; the reference's prefix, fit, Check. -/
import Derived.Test.YtpomobeogkfmfaaDoorAdr1
namespace Go.Proofs.YtpomobeogkfmfaaDoor
open Go.RowKit

def cmpI (a b : Int) : Int := if a < b then -1 else if b < a then 1 else 0
/-- The order of two addresses. -/
def cmpA (k : Int) (x : Nat) (k' : Int) (x' : Nat) : Int := if cmpI k k' ≠ 0 then cmpI k k' else cmpI x x'

theorem nan_int (a : Int) (w : World) : Calls Tryd.prog 64 #[.int .i64 a] w fun e w' => e = .returned (.bool false) ∧ w = w' := by
  go_enter Tryd.func64, Tryd.ntmps64
  go_wp2_with fail
  go_ret
  exact ⟨by simp, rfl⟩
theorem nan_u64 (a : Nat) (w : World) : Calls Tryd.prog 65 #[.int .u64 (a : Int)] w fun e w' => e = .returned (.bool false) ∧ w = w' := by
  go_enter Tryd.func65, Tryd.ntmps65
  go_wp2_with fail
  go_ret
  exact ⟨by simp, rfl⟩

set_option maxHeartbeats 1000000 in
theorem cmp_int (a b : Int) (w : World) : Calls Tryd.prog 47 #[.int .i64 a, .int .i64 b] w fun e w' => e = .returned (.int .i64 (cmpI a b)) ∧ w = w' := by
  rcases Int.lt_trichotomy a b with h | h | h
  · have h' : ¬ b < a := by omega
    go_enter Tryd.func47, Tryd.ntmps47
    go_wp2_with fail
    refine (nan_int a w).mono ?_
    rintro e w1 ⟨rfl, rfl⟩
    go_wp2_with fail
    refine (nan_int b w).mono ?_
    rintro e w1 ⟨rfl, rfl⟩
    go_wp2_with fail
    go_ret
    exact ⟨by simp [cmpI, h], rfl⟩
  · subst h
    go_enter Tryd.func47, Tryd.ntmps47
    go_wp2_with fail
    refine (nan_int a w).mono ?_
    rintro e w1 ⟨rfl, rfl⟩
    go_wp2_with fail
    refine (nan_int a w).mono ?_
    rintro e w1 ⟨rfl, rfl⟩
    go_wp2_with fail
    go_ret
    exact ⟨by simp [cmpI], rfl⟩
  · have h' : ¬ a < b := by omega
    go_enter Tryd.func47, Tryd.ntmps47
    go_wp2_with fail
    refine (nan_int a w).mono ?_
    rintro e w1 ⟨rfl, rfl⟩
    go_wp2_with fail
    refine (nan_int b w).mono ?_
    rintro e w1 ⟨rfl, rfl⟩
    go_wp2_with fail
    go_ret
    exact ⟨by simp [cmpI, h, h'], rfl⟩

set_option maxHeartbeats 1000000 in
theorem cmp_u64 (a b : Nat) (w : World) : Calls Tryd.prog 48 #[.int .u64 (a : Int), .int .u64 (b : Int)] w fun e w' => e = .returned (.int .i64 (cmpI a b)) ∧ w = w' := by
  rcases Int.lt_trichotomy (a : Int) (b : Int) with h | h | h
  · have h' : ¬ (b : Int) < a := by omega
    go_enter Tryd.func48, Tryd.ntmps48
    go_wp2_with fail
    refine (nan_u64 a w).mono ?_
    rintro e w1 ⟨rfl, rfl⟩
    go_wp2_with fail
    refine (nan_u64 b w).mono ?_
    rintro e w1 ⟨rfl, rfl⟩
    go_wp2_with fail
    go_ret
    exact ⟨by simp [cmpI]; omega, rfl⟩
  · obtain rfl : a = b := by omega
    go_enter Tryd.func48, Tryd.ntmps48
    go_wp2_with fail
    refine (nan_u64 a w).mono ?_
    rintro e w1 ⟨rfl, rfl⟩
    go_wp2_with fail
    refine (nan_u64 a w).mono ?_
    rintro e w1 ⟨rfl, rfl⟩
    go_wp2_with fail
    go_ret
    exact ⟨by simp [cmpI], rfl⟩
  · have h' : ¬ (a : Int) < b := by omega
    go_enter Tryd.func48, Tryd.ntmps48
    go_wp2_with fail
    refine (nan_u64 a w).mono ?_
    rintro e w1 ⟨rfl, rfl⟩
    go_wp2_with fail
    refine (nan_u64 b w).mono ?_
    rintro e w1 ⟨rfl, rfl⟩
    go_wp2_with fail
    go_ret
    have hv : cmpI a b = 1 := by unfold cmpI; rw [if_neg (show ¬ (a : Int) < b by omega), if_pos (show (b : Int) < a from h)]
    exact ⟨by rw [hv]; rfl, rfl⟩

set_option maxHeartbeats 1000000 in
theorem compare_any (k : Int) (x : Nat) (k' : Int) (x' : Nat) (w : World) : Calls Tryd.prog 25 #[adr k x, adr k' x'] w fun e w' => e = .returned (.int .i64 (cmpA k x k' x')) ∧ Below w.heap.size w w' := by
  have hb := al2 w (.cells #[.int .i64 k, .int .u64 (x : Int)] 24) (.cells #[.int .i64 k', .int .u64 (x' : Int)] 24)
  by_cases hc : cmpI k k' = 0
  · have hv : cmpA k x k' x' = cmpI x x' := by unfold cmpA; rw [if_neg (by simp [hc])]
    rw [hv]
    go_enter Tryd.func25, Tryd.ntmps25
    go_wp2_with fail
    refine (cmp_int k k' _).mono ?_
    rintro e w1 ⟨rfl, rfl⟩
    rw [hc]
    go_wp2_with fail
    refine (cmp_u64 x x' _).mono ?_
    rintro e w1 ⟨rfl, rfl⟩
    go_wp2_with fail
    go_ret
    exact ⟨rfl, hb⟩
  · have hv : cmpA k x k' x' = cmpI k k' := by unfold cmpA; rw [if_pos hc]
    rw [hv]
    go_enter Tryd.func25, Tryd.ntmps25
    go_wp2_with fail
    refine (cmp_int k k' _).mono ?_
    rintro e w1 ⟨rfl, rfl⟩
    have hne := ne_bool hc
    generalize hcc : cmpI k k' = c at *
    have HC := Lib.hid hcc
    clear hcc
    go_wp2_with fail
    go_ret
    exact ⟨by rw [HC.out]; rfl, hb⟩

theorem prefix_any (k : Int) (w : World) : Calls Tryd.prog 41 #[.int .i64 k] w fun e w' => e = .returned (.int .u64 (preN k : Nat)) ∧ w = w' := by
  by_cases h2 : k = 2
  · subst h2
    go_enter Tryd.func41, Tryd.ntmps41
    go_wp2_with fail
    go_ret
    exact ⟨rfl, rfl⟩
  · by_cases h3 : k = 3
    · subst h3
      go_enter Tryd.func41, Tryd.ntmps41
      go_wp2_with fail
      go_ret
      exact ⟨rfl, rfl⟩
    · have f2 := neq_bool h2
      have f3 := neq_bool h3
      go_enter Tryd.func41, Tryd.ntmps41
      go_wp2_with fail
      go_ret
      exact ⟨by unfold preN; rw [if_neg h2, if_neg h3]; rfl, rfl⟩

set_option maxRecDepth 100000 in
set_option maxHeartbeats 1000000 in
theorem rcheck_low (k : Int) (x : Nat) (hk : k < 1 ∨ 4 < k ∨ 281474976710656 ≤ x ∨ k = 1) (w : World) : Calls Tryd.prog 18 #[adr k x] w fun e w' => e = .returned (.int .i64 (chkA k x)) ∧ Below w.heap.size w w' := by
  have hb := al1 w (.cells #[.int .i64 k, .int .u64 (x : Int)] 24)
  by_cases h1 : k < 1
  · have hv : chkA k x = 12 := by unfold chkA; rw [if_pos (.inl h1)]
    rw [hv]
    go_enter Tryd.func18, Tryd.ntmps18
    go_wp2_with fail
    go_ret
    exact ⟨rfl, hb⟩
  · by_cases h2 : 4 < k
    · have hv : chkA k x = 12 := by unfold chkA; rw [if_pos (.inr h2)]
      rw [hv]
      go_enter Tryd.func18, Tryd.ntmps18
      go_wp2_with fail
      go_ret
      exact ⟨rfl, hb⟩
    · by_cases hx : 281474976710656 ≤ x
      · have hv : chkA k x = 5 := by unfold chkA; rw [if_neg (by omega), if_pos hx]
        rw [hv]
        have fx : decide ((281474976710656 : Int) ≤ (x : Int)) = true := decide_eq_true (by omega)
        clear hx hk hv
        go_enter Tryd.func18, Tryd.ntmps18
        go_wp2_with fail
        go_ret
        exact ⟨rfl, hb⟩
      · obtain rfl : k = 1 := by omega
        have hv : chkA 1 x = 0 := by unfold chkA; rw [if_neg (by omega), if_neg hx, if_pos rfl]
        rw [hv]
        have fx : decide ((281474976710656 : Int) ≤ (x : Int)) = false := decide_eq_false (by omega)
        clear hx hk hv h1 h2
        go_enter Tryd.func18, Tryd.ntmps18
        go_wp2_with fail
        go_ret
        exact ⟨rfl, hb⟩

theorem prefix2 (w : World) : Calls Tryd.prog 41 #[.int .i64 2] w fun e w' => e = .returned (.int .u64 3) ∧ w = w' := prefix_any 2 w

set_option maxRecDepth 100000 in
set_option maxHeartbeats 1000000 in
theorem rcheck_2 (x : Nat) (hx : x < 281474976710656) (w : World) : Calls Tryd.prog 18 #[adr 2 x] w fun e w' => e = .returned (.int .i64 (chkA 2 x)) ∧ Below w.heap.size w w' := by
  have hb := al1 w (.cells #[.int .i64 2, .int .u64 (x : Int)] 24)
  have fx : decide ((281474976710656 : Int) ≤ (x : Int)) = false := decide_eq_false (by omega)
  have HX := Lib.hid hx
  clear hx
  go_enter Tryd.func18, Tryd.ntmps18
  go_wp2_with fail
  have hval : chkA 2 x = if x / 70368744177664 ≠ 3 ∨ x % 70368744177664 = 0 ∨ x % 70368744177664 = 70368744177663 then 1 else 0 := by
    have hx := HX.out
    unfold chkA
    rw [if_neg (by omega), if_neg (by omega), if_neg (by omega)]
    rfl
  have fw : IntKind.u64.wrap ((x : Int) / 70368744177664) = (x : Int) / 70368744177664 := by
    have hx := HX.out
    rw [IntKind.wrap_u64]; omega
  have HVAL := Lib.hid hval
  clear hval
  by_cases h1 : x / 70368744177664 = 3
  · have f1 : ((x : Int) / 70368744177664 != 3) = false := eq_bool (by omega)
    by_cases h2 : x % 70368744177664 = 0
    · have f2 : ((x : Int) % 70368744177664 == 0) = true := eqq_bool (by omega)
      go_quiet ((go_at_call 41; exact quiet_at (prefix2 _)))
      go_wp2_with fail
      go_ret
      exact ⟨by rw [HVAL.out]; simp [h2], below_drewN hb _⟩
    · have f2 : ((x : Int) % 70368744177664 == 0) = false := neq_bool (by omega)
      by_cases h3 : x % 70368744177664 = 70368744177663
      · have f3 : ((x : Int) % 70368744177664 == 70368744177663) = true := eqq_bool (by omega)
        go_quiet ((go_at_call 41; exact quiet_at (prefix2 _)))
        go_wp2_with fail
        go_ret
        exact ⟨by rw [HVAL.out]; simp [h3], below_drewN hb _⟩
      · have f3 : ((x : Int) % 70368744177664 == 70368744177663) = false := neq_bool (by omega)
        go_quiet ((go_at_call 41; exact quiet_at (prefix2 _)))
        go_wp2_with fail
        go_ret
        exact ⟨by rw [HVAL.out]; simp [h1, h2, h3], below_drewN hb _⟩
  · have f1 : ((x : Int) / 70368744177664 != 3) = true := ne_bool (by omega)
    go_quiet ((go_at_call 41; exact quiet_at (prefix2 _)))
    go_wp2_with fail
    go_ret
    exact ⟨by rw [HVAL.out]; simp [h1], below_drewN hb _⟩

theorem prefix3 (w : World) : Calls Tryd.prog 41 #[.int .i64 3] w fun e w' => e = .returned (.int .u64 1) ∧ w = w' := prefix_any 3 w

set_option maxRecDepth 100000 in
set_option maxHeartbeats 1000000 in
theorem rcheck_3 (x : Nat) (hx : x < 281474976710656) (w : World) : Calls Tryd.prog 18 #[adr 3 x] w fun e w' => e = .returned (.int .i64 (chkA 3 x)) ∧ Below w.heap.size w w' := by
  have hb := al1 w (.cells #[.int .i64 3, .int .u64 (x : Int)] 24)
  have fx : decide ((281474976710656 : Int) ≤ (x : Int)) = false := decide_eq_false (by omega)
  have HX := Lib.hid hx
  clear hx
  have fw2 : IntKind.u64.wrap ((x : Int) % 70368744177664 / 16777216) = (x : Int) % 70368744177664 / 16777216 := by have hx := HX.out; rw [IntKind.wrap_u64]; omega
  go_enter Tryd.func18, Tryd.ntmps18
  go_wp2_with fail
  have hval : chkA 3 x = if x / 70368744177664 ≠ 1 ∨ x % 70368744177664 / 16777216 = 0 ∨ x % 70368744177664 / 16777216 = 4194303 then 1 else 0 := by
    have hx := HX.out
    have e : x / 16777216 % 4194304 = x % 70368744177664 / 16777216 := by omega
    rw [← e]
    unfold chkA
    rw [if_neg (by omega), if_neg (by omega), if_neg (by omega)]
    rfl
  have fw : IntKind.u64.wrap ((x : Int) / 70368744177664) = (x : Int) / 70368744177664 := by
    have hx := HX.out
    rw [IntKind.wrap_u64]; omega
  have HVAL := Lib.hid hval
  clear hval
  by_cases h1 : x / 70368744177664 = 1
  · have f1 : ((x : Int) / 70368744177664 != 1) = false := eq_bool (by omega)
    by_cases h2 : x % 70368744177664 / 16777216 = 0
    · have f2 : ((x : Int) % 70368744177664 / 16777216 == 0) = true := eqq_bool (by omega)
      go_quiet ((go_at_call 41; exact quiet_at (prefix3 _)))
      go_wp2_with fail
      go_ret
      exact ⟨by rw [HVAL.out]; simp [h2], below_drewN hb _⟩
    · have f2 : ((x : Int) % 70368744177664 / 16777216 == 0) = false := neq_bool (by omega)
      by_cases h3 : x % 70368744177664 / 16777216 = 4194303
      · have f3 : ((x : Int) % 70368744177664 / 16777216 == 4194303) = true := eqq_bool (by omega)
        go_quiet ((go_at_call 41; exact quiet_at (prefix3 _)))
        go_wp2_with fail
        go_ret
        exact ⟨by rw [HVAL.out]; simp [h3], below_drewN hb _⟩
      · have f3 : ((x : Int) % 70368744177664 / 16777216 == 4194303) = false := neq_bool (by omega)
        go_quiet ((go_at_call 41; exact quiet_at (prefix3 _)))
        go_wp2_with fail
        go_ret
        exact ⟨by rw [HVAL.out]; simp [h1, h2, h3], below_drewN hb _⟩
  · have f1 : ((x : Int) / 70368744177664 != 1) = true := ne_bool (by omega)
    go_quiet ((go_at_call 41; exact quiet_at (prefix3 _)))
    go_wp2_with fail
    go_ret
    exact ⟨by rw [HVAL.out]; simp [h1], below_drewN hb _⟩

theorem prefix4 (w : World) : Calls Tryd.prog 41 #[.int .i64 4] w fun e w' => e = .returned (.int .u64 0) ∧ w = w' := prefix_any 4 w

set_option maxRecDepth 100000 in
set_option maxHeartbeats 1000000 in
theorem rcheck_4 (x : Nat) (hx : x < 281474976710656) (w : World) : Calls Tryd.prog 18 #[adr 4 x] w fun e w' => e = .returned (.int .i64 (chkA 4 x)) ∧ Below w.heap.size w w' := by
  have hb := al1 w (.cells #[.int .i64 4, .int .u64 (x : Int)] 24)
  have fx : decide ((281474976710656 : Int) ≤ (x : Int)) = false := decide_eq_false (by omega)
  have HX := Lib.hid hx
  clear hx
  go_enter Tryd.func18, Tryd.ntmps18
  go_wp2_with fail
  have hval : chkA 4 x = if x / 70368744177664 ≠ 0 ∨ x % 70368744177664 = 0 ∨ x % 70368744177664 = 70368744177663 then 1 else 0 := by
    have hx := HX.out
    unfold chkA
    rw [if_neg (by omega), if_neg (by omega), if_neg (by omega)]
    rfl
  have fw : IntKind.u64.wrap ((x : Int) / 70368744177664) = (x : Int) / 70368744177664 := by
    have hx := HX.out
    rw [IntKind.wrap_u64]; omega
  have HVAL := Lib.hid hval
  clear hval
  by_cases h1 : x / 70368744177664 = 0
  · have f1 : ((x : Int) / 70368744177664 != 0) = false := eq_bool (by omega)
    by_cases h2 : x % 70368744177664 = 0
    · have f2 : ((x : Int) % 70368744177664 == 0) = true := eqq_bool (by omega)
      go_quiet ((go_at_call 41; exact quiet_at (prefix4 _)))
      go_wp2_with fail
      go_ret
      exact ⟨by rw [HVAL.out]; simp [h2], below_drewN hb _⟩
    · have f2 : ((x : Int) % 70368744177664 == 0) = false := neq_bool (by omega)
      by_cases h3 : x % 70368744177664 = 70368744177663
      · have f3 : ((x : Int) % 70368744177664 == 70368744177663) = true := eqq_bool (by omega)
        go_quiet ((go_at_call 41; exact quiet_at (prefix4 _)))
        go_wp2_with fail
        go_ret
        exact ⟨by rw [HVAL.out]; simp [h3], below_drewN hb _⟩
      · have f3 : ((x : Int) % 70368744177664 == 70368744177663) = false := neq_bool (by omega)
        go_quiet ((go_at_call 41; exact quiet_at (prefix4 _)))
        go_wp2_with fail
        go_ret
        exact ⟨by rw [HVAL.out]; simp [h1, h2, h3], below_drewN hb _⟩
  · have f1 : ((x : Int) / 70368744177664 != 0) = true := ne_bool (by omega)
    go_quiet ((go_at_call 41; exact quiet_at (prefix4 _)))
    go_wp2_with fail
    go_ret
    exact ⟨by rw [HVAL.out]; simp [h1], below_drewN hb _⟩

/-- The reference's Check returns the error of an address. -/
theorem rcheck_any (k : Int) (x : Nat) (w : World) : Calls Tryd.prog 18 #[adr k x] w fun e w' => e = .returned (.int .i64 (chkA k x)) ∧ Below w.heap.size w w' := by
  by_cases h : k < 1 ∨ 4 < k ∨ 281474976710656 ≤ x ∨ k = 1
  · exact rcheck_low k x h w
  · obtain rfl | rfl | rfl : k = 2 ∨ k = 3 ∨ k = 4 := by omega
    · exact rcheck_2 x (by omega) w
    · exact rcheck_3 x (by omega) w
    · exact rcheck_4 x (by omega) w
end Go.Proofs.YtpomobeogkfmfaaDoor
