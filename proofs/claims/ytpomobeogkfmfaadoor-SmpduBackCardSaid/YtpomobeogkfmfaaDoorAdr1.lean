/- Walks of package address: mask, part, Check. -/
import Derived.Test.YtpomobeogkfmfaaDoorMem
import Derived.Laws.BitsAllLaws
namespace Go.Proofs.YtpomobeogkfmfaaDoor
open Go.RowKit

theorem quiet_at {P : Program} {f : FuncId} {args : Array Value} {w : World} {n : Nat} {v : Value}
    (h : Calls P f args (w.drewN n) fun e w' => e = .returned v ∧ w.drewN n = w') : Calls P f args (w.drewN n) fun e w'' => e = .returned v ∧ ∃ m, w'' = w.drewN m :=
  h.mono fun _ _ ⟨he, hm⟩ => ⟨he, n, hm.symm⟩

abbrev adr (k : Int) (x : Nat) : Value := .agg #[.int .i64 k, .int .u64 (x : Int)]

theorem u64_low (a n : Nat) (ha : a < 18446744073709551616) (hn : n ≤ 48) : bits .and .u64 (a : Int) ((2 ^ n - 1 : Nat) : Int) = ((a % 2 ^ n : Nat) : Int) := by
  have h1 : 2 ^ n ≤ 2 ^ 48 := Nat.pow_le_pow_right (by omega) hn
  rw [u64_and_nat a _ ha (by omega), Nat.and_two_pow_sub_one_eq_mod]
theorem u64_low22 (a : Nat) (ha : a < 18446744073709551616) : bits .and .u64 ((a : Int) / 16777216) 4194303 = ((a / 16777216 % 4194304 : Nat) : Int) := u64_low (a / 16777216) 22 (by omega) (by omega)
theorem u64_low46 (a : Nat) (ha : a < 18446744073709551616) : bits .and .u64 (a : Int) 70368744177663 = ((a % 70368744177664 : Nat) : Int) := u64_low a 46 ha (by omega)
theorem u64_low48 (a : Nat) (ha : a < 18446744073709551616) : bits .and .u64 (a : Int) 281474976710655 = ((a % 281474976710656 : Nat) : Int) := u64_low a 48 ha (by omega)
theorem u64_low24 (a : Nat) (ha : a < 18446744073709551616) : bits .and .u64 (a : Int) 16777215 = ((a % 16777216 : Nat) : Int) := u64_low a 24 ha (by omega)

set_option maxHeartbeats 1000000 in
theorem mask_any (n : Nat) (hn : n ≤ 48) (w : World) : Calls Tryd.prog 40 #[.int .i64 (n : Int)] w fun e w' => e = .returned (.int .u64 ((2 ^ n - 1 : Nat) : Int)) ∧ w = w' := by
  have h1 : 2 ^ n ≤ 2 ^ 48 := Nat.pow_le_pow_right (by omega) hn
  have h0 : 0 < 2 ^ n := Nat.two_pow_pos n
  have e1 : IntKind.u64.wrap ((2 : Int) ^ n) = ((2 ^ n : Nat) : Int) := by
    have e : ((2 : Int) ^ n) = ((2 ^ n : Nat) : Int) := by push_cast; rfl
    rw [e, IntKind.wrap_u64]; omega
  have e2 : IntKind.u64.wrap (((2 ^ n : Nat) : Int) - 1) = ((2 ^ n - 1 : Nat) : Int) := by
    rw [IntKind.wrap_u64]; omega
  generalize hp : 2 ^ n = p at *
  go_enter Tryd.func40, Tryd.ntmps40
  go_wp2_with fail
  go_ret
  exact ⟨rfl, rfl⟩
theorem mask22 (w : World) : Calls Tryd.prog 40 #[.int .i64 22] w fun e w' => e = .returned (.int .u64 4194303) ∧ w = w' := mask_any 22 (by omega) w
theorem mask46 (w : World) : Calls Tryd.prog 40 #[.int .i64 46] w fun e w' => e = .returned (.int .u64 70368744177663) ∧ w = w' := mask_any 46 (by omega) w
theorem mask48 (w : World) : Calls Tryd.prog 40 #[.int .i64 48] w fun e w' => e = .returned (.int .u64 281474976710655) ∧ w = w' := mask_any 48 (by omega) w
theorem mask24 (w : World) : Calls Tryd.prog 40 #[.int .i64 24] w fun e w' => e = .returned (.int .u64 16777215) ∧ w = w' := mask_any 24 (by omega) w

/-- The random part of an address, and the number of its bits. -/
def partN (k : Int) (x : Nat) : Nat := if k = 3 then x / 16777216 % 4194304 else x % 70368744177664
def partB (k : Int) : Int := if k = 3 then 22 else 46

set_option maxHeartbeats 1000000 in
theorem part_any (k : Int) (x : Nat) (hx : x < 18446744073709551616) (w : World) : Calls Tryd.prog 39 #[adr k x] w fun e w' => e = .returned (.tuple #[.int .u64 (partN k x : Nat), .int .i64 (partB k)]) ∧ Below w.heap.size w w' := by
  have hb := al1 w (.cells #[.int .i64 k, .int .u64 (x : Int)] 24)
  by_cases hk : k = 3
  · subst hk
    have e := u64_low22 x hx
    go_enter Tryd.func39, Tryd.ntmps39
    go_wp2_with fail
    go_quiet ((go_at_call 40; exact quiet_at (mask22 _)))
    go_wp2_with fail
    go_ret2
    exact ⟨by simp [partN, partB], below_drewN hb _⟩
  · have e := u64_low46 x hx
    have hk' : (k == 3) = false := by simpa using hk
    go_enter Tryd.func39, Tryd.ntmps39
    go_wp2_with fail
    go_quiet ((go_at_call 40; exact quiet_at (mask46 _)))
    go_wp2_with fail
    go_ret2
    exact ⟨by simp [partN, partB, hk], below_drewN hb _⟩

/-- The tables of package address. -/
def preN (k : Int) : Nat := if k = 2 then 3 else if k = 3 then 1 else 0
def letN (k : Int) : Nat := if k = 1 then 112 else if k = 2 then 115 else if k = 3 then 114 else if k = 4 then 97 else 0
/-- The prefixes lie in block 0. -/
def PTab (w : World) : Prop := 0 < w.heap.size ∧ ∀ i : Nat, i < 5 → w.cell? ⟨0, i, none⟩ = some (.int .u64 (preN i : Nat))
theorem PTab.below {B : Nat} {w w' : World} (h : PTab w) (hb : Below B w w') (hB : 0 < B) : PTab w' :=
  ⟨Nat.lt_of_lt_of_le h.1 hb.size, fun i hi => (hb.cell (p := ⟨0, i, none⟩) hB).trans (h.2 i hi)⟩
theorem PTab.keep {w w' : World} (h : PTab w) (hb : Below w.heap.size w w') : PTab w' := h.below hb h.1
def ATab (w : World) : Prop := 1 < w.heap.size ∧ ∀ i : Nat, i < 5 → w.cell? ⟨0, i, none⟩ = some (.int .u64 (preN i : Nat)) ∧ w.cell? ⟨1, i, none⟩ = some (.int .u8 (letN i : Nat))
theorem ATab.below {B : Nat} {w w' : World} (h : ATab w) (hb : Below B w w') (hB : 1 < B) : ATab w' :=
  ⟨Nat.lt_of_lt_of_le h.1 hb.size, fun i hi => ⟨(hb.cell (p := ⟨0, i, none⟩) (show 0 < B by omega)).trans (h.2 i hi).1, (hb.cell (p := ⟨1, i, none⟩) hB).trans (h.2 i hi).2⟩⟩
theorem ATab.keep {w w' : World} (h : ATab w) (hb : Below w.heap.size w w') : ATab w' := h.below hb h.1

theorem ATab.pre {w : World} (h : ATab w) : PTab w := ⟨Nat.lt_of_le_of_lt (Nat.zero_le _) h.1, fun i hi => (h.2 i hi).1⟩

def mostN (k : Int) : Nat := if k = 3 then 4194303 else 70368744177663
/-- The error of an address. -/
def chkA (k : Int) (x : Nat) : Int :=
  if k < 1 ∨ 4 < k then 12 else if 281474976710656 ≤ x then 5 else if k = 1 then 0 else if x / 70368744177664 ≠ preN k ∨ partN k x = 0 ∨ partN k x = mostN k then 1 else 0

set_option maxHeartbeats 1000000 in
theorem check_kind (k : Int) (x : Nat) (hk : k < 1 ∨ 4 < k) (w : World) : Calls Tryd.prog 17 #[adr k x] w fun e w' => e = .returned (.int .i64 12) ∧ Below w.heap.size w w' := by
  have hb := al1 w (.cells #[.int .i64 k, .int .u64 (x : Int)] 24)
  rcases hk with hk | hk
  · go_enter Tryd.func17, Tryd.ntmps17
    go_wp2_with fail
    go_ret
    exact ⟨rfl, hb⟩
  · have h0 : 0 < k := by omega
    go_enter Tryd.func17, Tryd.ntmps17
    go_wp2_with fail
    go_ret
    exact ⟨rfl, hb⟩

set_option maxHeartbeats 1000000 in
theorem check_range (k : Int) (x : Nat) (h1 : 0 < k) (h2 : k < 5) (hx : 281474976710656 ≤ x) (w : World) : Calls Tryd.prog 17 #[adr k x] w fun e w' => e = .returned (.int .i64 5) ∧ Below w.heap.size w w' := by
  have hb := al1 w (.cells #[.int .i64 k, .int .u64 (x : Int)] 24)
  have e : ((x : Int) / 281474976710656 != 0) = true := by rw [bne_iff_ne]; omega
  go_enter Tryd.func17, Tryd.ntmps17
  go_wp2_with fail
  go_ret
  exact ⟨rfl, hb⟩

set_option maxHeartbeats 1000000 in
theorem check_public (x : Nat) (hx : x < 281474976710656) (w : World) : Calls Tryd.prog 17 #[adr 1 x] w fun e w' => e = .returned (.int .i64 0) ∧ Below w.heap.size w w' := by
  have hb := al1 w (.cells #[.int .i64 1, .int .u64 (x : Int)] 24)
  have e : ((x : Int) / 281474976710656 != 0) = false := by simp; omega
  go_enter Tryd.func17, Tryd.ntmps17
  go_wp2_with fail
  go_ret
  exact ⟨rfl, hb⟩

theorem ne_bool {a b : Int} (h : a ≠ b) : (a != b) = true := by simpa using h
theorem eq_bool {a b : Int} (h : a = b) : (a != b) = false := by simpa using h
theorem eqq_bool {a b : Int} (h : a = b) : (a == b) = true := by simpa using h
theorem neq_bool {a b : Int} (h : a ≠ b) : (a == b) = false := by simpa using h

set_option maxHeartbeats 1000000 in
theorem check_2 (x : Nat) (hx : x < 281474976710656) (w : World) (hT : PTab w) : Calls Tryd.prog 17 #[adr 2 x] w fun e w' => e = .returned (.int .i64 (chkA 2 x)) ∧ Below w.heap.size w w' := by
  have hb := al1 w (.cells #[.int .i64 2, .int .u64 (x : Int)] 24)
  have e : ((x : Int) / 281474976710656 != 0) = false := by simp; omega
  go_enter Tryd.func17, Tryd.ntmps17
  go_wp2_with fail
  refine (part_any 2 x (by omega) _).mono ?_
  rintro e w1 ⟨rfl, hb1⟩
  have hT1 := (hT.keep hb).keep hb1
  have hc := bfar (w.heap.size + 1) hb1 (by simp)
  have hl0 := hc w.heap.size 0 (by omega)
  have hl1 := hc w.heap.size 1 (by omega)
  have hp0 := hT1.2 2 (by omega)
  have hB := Lib.hid (bthen hb hb1)
  have hbelow := hT.1
  clear hb1 hb hT hT1 hc
  have hval : chkA 2 x = if x / 70368744177664 ≠ 3 ∨ partN 2 x = 0 ∨ partN 2 x = 70368744177663 then 1 else 0 := by
    unfold chkA
    rw [if_neg (by omega), if_neg (by omega), if_neg (by omega)]
    rfl
  have hpre : preN 2 = 3 := rfl
  have HVAL := Lib.hid hval
  clear hval
  have hbit : partB 2 = 46 := rfl
  simp only [hbit, Int.cast_ofNat_Int, hpre] at hp0 ⊢
  generalize hn : partN 2 x = n at *
  clear hn
  by_cases h1 : x / 70368744177664 = 3
  · have f1 : ((x : Int) / 70368744177664 != 3) = false := eq_bool (by omega)
    by_cases h2 : n = 0
    · have f2 : ((n : Int) == 0) = true := eqq_bool (by omega)
      go_wp2_with fail
      go_quiet ((go_at_call 40; exact quiet_at (mask46 _)))
      go_wp2_with fail
      go_ret
      exact ⟨by rw [HVAL.out]; simp [h2], below_drewN hB.out _⟩
    · have f2 : ((n : Int) == 0) = false := neq_bool (by omega)
      by_cases h3 : n = 70368744177663
      · have f3 : ((n : Int) == 70368744177663) = true := eqq_bool (by omega)
        go_wp2_with fail
        go_quiet ((go_at_call 40; exact quiet_at (mask46 _)))
        go_wp2_with fail
        go_ret
        exact ⟨by rw [HVAL.out]; simp [h3], below_drewN hB.out _⟩
      · have f3 : ((n : Int) == 70368744177663) = false := neq_bool (by omega)
        go_wp2_with fail
        go_quiet ((go_at_call 40; exact quiet_at (mask46 _)))
        go_wp2_with fail
        go_ret
        exact ⟨by rw [HVAL.out]; simp [h1, h2, h3], below_drewN hB.out _⟩
  · have f1 : ((x : Int) / 70368744177664 != 3) = true := ne_bool (by omega)
    go_wp2_with fail
    go_quiet ((go_at_call 40; exact quiet_at (mask46 _)))
    go_wp2_with fail
    go_ret
    exact ⟨by rw [HVAL.out]; simp [h1], below_drewN hB.out _⟩

set_option maxHeartbeats 1000000 in
theorem check_3 (x : Nat) (hx : x < 281474976710656) (w : World) (hT : PTab w) : Calls Tryd.prog 17 #[adr 3 x] w fun e w' => e = .returned (.int .i64 (chkA 3 x)) ∧ Below w.heap.size w w' := by
  have hb := al1 w (.cells #[.int .i64 3, .int .u64 (x : Int)] 24)
  have e : ((x : Int) / 281474976710656 != 0) = false := by simp; omega
  go_enter Tryd.func17, Tryd.ntmps17
  go_wp2_with fail
  refine (part_any 3 x (by omega) _).mono ?_
  rintro e w1 ⟨rfl, hb1⟩
  have hT1 := (hT.keep hb).keep hb1
  have hc := bfar (w.heap.size + 1) hb1 (by simp)
  have hl0 := hc w.heap.size 0 (by omega)
  have hl1 := hc w.heap.size 1 (by omega)
  have hp0 := hT1.2 3 (by omega)
  have hB := Lib.hid (bthen hb hb1)
  have hbelow := hT.1
  clear hb1 hb hT hT1 hc
  have hval : chkA 3 x = if x / 70368744177664 ≠ 1 ∨ partN 3 x = 0 ∨ partN 3 x = 4194303 then 1 else 0 := by
    unfold chkA
    rw [if_neg (by omega), if_neg (by omega), if_neg (by omega)]
    rfl
  have hpre : preN 3 = 1 := rfl
  have HVAL := Lib.hid hval
  clear hval
  have hbit : partB 3 = 22 := rfl
  simp only [hbit, Int.cast_ofNat_Int, hpre] at hp0 ⊢
  generalize hn : partN 3 x = n at *
  clear hn
  by_cases h1 : x / 70368744177664 = 1
  · have f1 : ((x : Int) / 70368744177664 != 1) = false := eq_bool (by omega)
    by_cases h2 : n = 0
    · have f2 : ((n : Int) == 0) = true := eqq_bool (by omega)
      go_wp2_with fail
      go_quiet ((go_at_call 40; exact quiet_at (mask22 _)))
      go_wp2_with fail
      go_ret
      exact ⟨by rw [HVAL.out]; simp [h2], below_drewN hB.out _⟩
    · have f2 : ((n : Int) == 0) = false := neq_bool (by omega)
      by_cases h3 : n = 4194303
      · have f3 : ((n : Int) == 4194303) = true := eqq_bool (by omega)
        go_wp2_with fail
        go_quiet ((go_at_call 40; exact quiet_at (mask22 _)))
        go_wp2_with fail
        go_ret
        exact ⟨by rw [HVAL.out]; simp [h3], below_drewN hB.out _⟩
      · have f3 : ((n : Int) == 4194303) = false := neq_bool (by omega)
        go_wp2_with fail
        go_quiet ((go_at_call 40; exact quiet_at (mask22 _)))
        go_wp2_with fail
        go_ret
        exact ⟨by rw [HVAL.out]; simp [h1, h2, h3], below_drewN hB.out _⟩
  · have f1 : ((x : Int) / 70368744177664 != 1) = true := ne_bool (by omega)
    go_wp2_with fail
    go_quiet ((go_at_call 40; exact quiet_at (mask22 _)))
    go_wp2_with fail
    go_ret
    exact ⟨by rw [HVAL.out]; simp [h1], below_drewN hB.out _⟩

set_option maxHeartbeats 1000000 in
theorem check_4 (x : Nat) (hx : x < 281474976710656) (w : World) (hT : PTab w) : Calls Tryd.prog 17 #[adr 4 x] w fun e w' => e = .returned (.int .i64 (chkA 4 x)) ∧ Below w.heap.size w w' := by
  have hb := al1 w (.cells #[.int .i64 4, .int .u64 (x : Int)] 24)
  have e : ((x : Int) / 281474976710656 != 0) = false := by simp; omega
  go_enter Tryd.func17, Tryd.ntmps17
  go_wp2_with fail
  refine (part_any 4 x (by omega) _).mono ?_
  rintro e w1 ⟨rfl, hb1⟩
  have hT1 := (hT.keep hb).keep hb1
  have hc := bfar (w.heap.size + 1) hb1 (by simp)
  have hl0 := hc w.heap.size 0 (by omega)
  have hl1 := hc w.heap.size 1 (by omega)
  have hp0 := hT1.2 4 (by omega)
  have hB := Lib.hid (bthen hb hb1)
  have hbelow := hT.1
  clear hb1 hb hT hT1 hc
  have hval : chkA 4 x = if x / 70368744177664 ≠ 0 ∨ partN 4 x = 0 ∨ partN 4 x = 70368744177663 then 1 else 0 := by
    unfold chkA
    rw [if_neg (by omega), if_neg (by omega), if_neg (by omega)]
    rfl
  have hpre : preN 4 = 0 := rfl
  have HVAL := Lib.hid hval
  clear hval
  have hbit : partB 4 = 46 := rfl
  simp only [hbit, Int.cast_ofNat_Int, hpre] at hp0 ⊢
  generalize hn : partN 4 x = n at *
  clear hn
  by_cases h1 : x / 70368744177664 = 0
  · have f1 : ((x : Int) / 70368744177664 != 0) = false := eq_bool (by omega)
    by_cases h2 : n = 0
    · have f2 : ((n : Int) == 0) = true := eqq_bool (by omega)
      go_wp2_with fail
      go_quiet ((go_at_call 40; exact quiet_at (mask46 _)))
      go_wp2_with fail
      go_ret
      exact ⟨by rw [HVAL.out]; simp [h2], below_drewN hB.out _⟩
    · have f2 : ((n : Int) == 0) = false := neq_bool (by omega)
      by_cases h3 : n = 70368744177663
      · have f3 : ((n : Int) == 70368744177663) = true := eqq_bool (by omega)
        go_wp2_with fail
        go_quiet ((go_at_call 40; exact quiet_at (mask46 _)))
        go_wp2_with fail
        go_ret
        exact ⟨by rw [HVAL.out]; simp [h3], below_drewN hB.out _⟩
      · have f3 : ((n : Int) == 70368744177663) = false := neq_bool (by omega)
        go_wp2_with fail
        go_quiet ((go_at_call 40; exact quiet_at (mask46 _)))
        go_wp2_with fail
        go_ret
        exact ⟨by rw [HVAL.out]; simp [h1, h2, h3], below_drewN hB.out _⟩
  · have f1 : ((x : Int) / 70368744177664 != 0) = true := ne_bool (by omega)
    go_wp2_with fail
    go_quiet ((go_at_call 40; exact quiet_at (mask46 _)))
    go_wp2_with fail
    go_ret
    exact ⟨by rw [HVAL.out]; simp [h1], below_drewN hB.out _⟩

/-- address.Check returns the error of an address. -/
theorem check_anyP (k : Int) (x : Nat) (w : World) (hT : PTab w) : Calls Tryd.prog 17 #[adr k x] w fun e w' => e = .returned (.int .i64 (chkA k x)) ∧ Below w.heap.size w w' := by
  by_cases h0 : k < 1 ∨ 4 < k
  · rw [show chkA k x = 12 by unfold chkA; rw [if_pos h0]]
    exact check_kind k x h0 w
  · by_cases hx : 281474976710656 ≤ x
    · rw [show chkA k x = 5 by unfold chkA; rw [if_neg h0, if_pos hx]]
      exact check_range k x (by omega) (by omega) hx w
    · obtain rfl | rfl | rfl | rfl : k = 1 ∨ k = 2 ∨ k = 3 ∨ k = 4 := by omega
      · rw [show chkA 1 x = 0 by unfold chkA; rw [if_neg h0, if_neg hx, if_pos rfl]]
        exact check_public x (by omega) w
      · exact check_2 x (by omega) w hT
      · exact check_3 x (by omega) w hT
      · exact check_4 x (by omega) w hT
theorem check_any (k : Int) (x : Nat) (w : World) (hT : ATab w) : Calls Tryd.prog 17 #[adr k x] w fun e w' => e = .returned (.int .i64 (chkA k x)) ∧ Below w.heap.size w w' := check_anyP k x w hT.pre
end Go.Proofs.YtpomobeogkfmfaaDoor
