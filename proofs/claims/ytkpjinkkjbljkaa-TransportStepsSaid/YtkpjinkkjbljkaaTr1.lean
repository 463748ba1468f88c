/- PDUs of the lower transport layer by value, and when one is valid; walks of Count, small, isAck. No condition. -/
import Derived.Test.YtkpjinkkjbljkaaOct3
import Derived.Test.YtkpjinkkjbljkaaNum
import Derived.Test.YtkpjinkkjbljkaaApart
namespace Go.Proofs.Ytkpjinkkjbljkaa
open Go.RowKit

/-- A PDU of the lower transport layer, but for its bytes' place in memory. -/
structure Low where
  ctl : Bool
  seg : Bool
  app : Bool
  zero : Int
  idx : Int
  last : Int
  op : Int
  blk : Nat
  fr : Bool
deriving DecidableEq
abbrev lowC (c s a : Bool) (z i l o : Int) (b : Nat) (f : Bool) (v : Value) : Value :=
  .agg #[.bool c, .bool s, .bool a, .int .i64 z, .int .i64 i, .int .i64 l, .int .i64 o, .int .u32 (b : Int), .bool f, v]
abbrev lowV (p : Low) (v : Value) : Value := lowC p.ctl p.seg p.app p.zero p.idx p.last p.op p.blk p.fr v
def low0 : Low := ⟨false, false, false, 0, 0, 0, 0, 0, false⟩

/-- How many numbers a message of n bytes needs. -/
def cntN (n : Int) : Int := if n < 1 ∨ 384 < n then 0 else if n ≤ 15 then 1 else (n + 11) / 12

set_option maxHeartbeats 1000000 in
theorem count_any (n : Int) (w : World) : Calls Try.prog 14 #[.int .i64 n] w fun e w' => e = .returned (.int .i64 (cntN n)) ∧ w = w' := by
  by_cases h1 : n < 1
  · rw [show cntN n = 0 by unfold cntN; rw [if_pos (.inl h1)]]
    go_enter Try.func14, Try.ntmps14
    go_wp2
    go_ret
    exact ⟨rfl, rfl⟩
  · have g1 : decide (n < 1) = false := decide_eq_false h1
    by_cases h2 : 384 < n
    · rw [show cntN n = 0 by unfold cntN; rw [if_pos (.inr h2)]]
      go_enter Try.func14, Try.ntmps14
      go_wp2
      go_ret
      exact ⟨rfl, rfl⟩
    · have g2 : decide (384 < n) = false := decide_eq_false h2
      by_cases h3 : n ≤ 15
      · rw [show cntN n = 1 by unfold cntN; rw [if_neg (by omega), if_pos h3]]
        go_enter Try.func14, Try.ntmps14
        go_wp2
        go_ret
        exact ⟨rfl, rfl⟩
      · have HV := Lib.hid (show cntN n = (n + 11) / 12 by unfold cntN; rw [if_neg (by omega), if_neg h3])
        obtain ⟨m, rfl⟩ := Int.eq_ofNat_of_zero_le (show 0 ≤ n by omega)
        go_enter Try.func14, Try.ntmps14
        go_wp2
        go_ret
        exact ⟨by rw [HV.out]; exact ret_int (by omega), rfl⟩
set_option maxHeartbeats 1000000 in
theorem rcount_any (n : Int) (w : World) : Calls Try.prog 15 #[.int .i64 n] w fun e w' => e = .returned (.int .i64 (cntN n)) ∧ w = w' := by
  by_cases h1 : n < 1
  · rw [show cntN n = 0 by unfold cntN; rw [if_pos (.inl h1)]]
    go_enter Try.func15, Try.ntmps15
    go_wp2
    go_ret
    exact ⟨rfl, rfl⟩
  · have g1 : decide (n < 1) = false := decide_eq_false h1
    by_cases h2 : 384 < n
    · rw [show cntN n = 0 by unfold cntN; rw [if_pos (.inr h2)]]
      go_enter Try.func15, Try.ntmps15
      go_wp2
      go_ret
      exact ⟨rfl, rfl⟩
    · have g2 : decide (384 < n) = false := decide_eq_false h2
      by_cases h3 : n ≤ 15
      · rw [show cntN n = 1 by unfold cntN; rw [if_neg (by omega), if_pos h3]]
        go_enter Try.func15, Try.ntmps15
        go_wp2
        go_ret
        exact ⟨rfl, rfl⟩
      · have HV := Lib.hid (show cntN n = (n + 11) / 12 by unfold cntN; rw [if_neg (by omega), if_neg h3])
        obtain ⟨m, rfl⟩ := Int.eq_ofNat_of_zero_le (show 0 ≤ n by omega)
        go_enter Try.func15, Try.ntmps15
        go_wp2
        go_ret
        exact ⟨by rw [HV.out]; exact ret_int (by omega), rfl⟩

theorem small_any (p : Low) (A : Option Addr) (n c : Nat) (w : World) : Calls Try.prog 11 #[lowV p (.slice A n c)] w fun e w' => e = .returned (.bool (decide (n ≤ 100))) ∧ Below w.heap.size w w' := by
  go_enter Try.func11, Try.ntmps11
  go_wp2
  go_ret
  exact ⟨by simp; omega, al1 _ _⟩

/-- Is it an acknowledgement? -/
def isA (p : Low) : Bool := p.ctl && p.op == 0
set_option maxHeartbeats 1000000 in
theorem isAck_any (p : Low) (v : Value) (w : World) : Calls Try.prog 32 #[lowV p v] w fun e w' => e = .returned (.bool (isA p)) ∧ Below w.heap.size w w' := by
  obtain ⟨c, s, a, z, i, l, o, b, f⟩ := p
  go_enter Try.func32, Try.ntmps32
  go_wp2
  all_goals
    go_ret
    refine ⟨?_, al1 _ _⟩
    simp_all [isA]
/-- Are the fields that the form does not use zero? -/
def restB (ia : Bool) (p : Low) (n : Nat) : Bool :=
  if ia then !p.seg && !p.app && p.idx == 0 && p.last == 0 && (n : Int) == 0
  else if p.ctl then !p.seg && !p.app && p.zero == 0 && p.idx == 0 && p.last == 0 && p.blk == 0 && !p.fr
  else if p.seg then p.op == 0 && p.blk == 0 && !p.fr
  else p.op == 0 && p.zero == 0 && p.idx == 0 && p.last == 0 && p.blk == 0 && !p.fr
def restP (p : Low) (n : Nat) : Bool := restB (isA p) p n
set_option maxRecDepth 100000 in
set_option maxHeartbeats 4000000 in
theorem rest_any (p : Low) (A : Option Addr) (n c : Nat) (w : World) : Calls Try.prog 29 #[lowV p (.slice A n c)] w fun e w' => e = .returned (.bool (restP p n)) ∧ Below w.heap.size w w' := by
  have C := Lib.hid (isAck_any p (.slice A n c))
  have HR := Lib.hid (show restP p n = restB (isA p) p n from rfl)
  generalize restP p n = res at *
  generalize isA p = ia at *
  obtain ⟨ct, s, a, z, i, l, o, b, f⟩ := p
  go_enter Try.func29, Try.ntmps29
  go_wp2_with fail
  refine (C.out _).mono ?_
  rintro e w1 ⟨rfl, hb1⟩
  have hz1 := sz1 hb1
  have e0 : w1.cell? ⟨w.heap.size, 0, none⟩ = some (.bool ct) := by rw [blow hb1 w.heap.size 0 (by simp)]; simp [go_sem]
  have e1 : w1.cell? ⟨w.heap.size, 1, none⟩ = some (.bool s) := by rw [blow hb1 w.heap.size 1 (by simp)]; simp [go_sem]
  have e2 : w1.cell? ⟨w.heap.size, 2, none⟩ = some (.bool a) := by rw [blow hb1 w.heap.size 2 (by simp)]; simp [go_sem]
  have e3 : w1.cell? ⟨w.heap.size, 3, none⟩ = some (.int .i64 z) := by rw [blow hb1 w.heap.size 3 (by simp)]; simp [go_sem]
  have e4 : w1.cell? ⟨w.heap.size, 4, none⟩ = some (.int .i64 i) := by rw [blow hb1 w.heap.size 4 (by simp)]; simp [go_sem]
  have e5 : w1.cell? ⟨w.heap.size, 5, none⟩ = some (.int .i64 l) := by rw [blow hb1 w.heap.size 5 (by simp)]; simp [go_sem]
  have e6 : w1.cell? ⟨w.heap.size, 6, none⟩ = some (.int .i64 o) := by rw [blow hb1 w.heap.size 6 (by simp)]; simp [go_sem]
  have e7 : w1.cell? ⟨w.heap.size, 7, none⟩ = some (.int .u32 (b : Int)) := by rw [blow hb1 w.heap.size 7 (by simp)]; simp [go_sem]
  have e8 : w1.cell? ⟨w.heap.size, 8, none⟩ = some (.bool f) := by rw [blow hb1 w.heap.size 8 (by simp)]; simp [go_sem]
  have e9 : w1.cell? ⟨w.heap.size, 9, none⟩ = some (.slice A n c) := by rw [blow hb1 w.heap.size 9 (by simp)]; simp [go_sem]
  have HB1 := Lib.hid (one hb1)
  clear hb1 C
  go_wp2
  all_goals
    go_ret
    refine ⟨?_, HB1.out⟩
    rw [HR.out]
    clear HR HB1
    simp_all [restB]
end Go.Proofs.Ytkpjinkkjbljkaa
