/- Security PDUs by value: their cells, the fields that a kind uses; checks of features. No condition. -/
import Derived.Test.YtpomobeogkfmfaaDoorAdr2
namespace Go.Proofs.YtpomobeogkfmfaaDoor
open Go.RowKit

/-- A security PDU. -/
structure Sec where
  kind : Int
  io : Int
  oob : Bool
  bond : Bool
  mitm : Bool
  send : Bool
  take : Bool
  pub : Nat
  val : Nat
  ak : Int
  ax : Nat
  irk : Nat
  rsn : Int
deriving DecidableEq

abbrev feat (i : Int) (o b m s t : Bool) : Value := .agg #[.int .i64 i, .bool o, .bool b, .bool m, .bool s, .bool t]
abbrev secC (k i : Int) (o b m s t : Bool) (pu va : Nat) (ak : Int) (ax ir : Nat) (rs : Int) : Value :=
  .agg #[.int .i64 k, .int .i64 i, .bool o, .bool b, .bool m, .bool s, .bool t, .int .u32 (pu : Int), .int .u64 (va : Int), .int .i64 ak, .int .u64 (ax : Int), .int .u64 (ir : Int), .int .i64 rs]
abbrev secV (p : Sec) : Value := secC p.kind p.io p.oob p.bond p.mitm p.send p.take p.pub p.val p.ak p.ax p.irk p.rsn
def sec0 : Sec := ⟨0, 0, false, false, false, false, false, 0, 0, 0, 0, 0, 0⟩

/-- Is there such a kind? -/
def hasK (k : Int) : Bool := decide (k = 1 ∨ k = 2 ∨ k = 3 ∨ k = 4 ∨ k = 5 ∨ k = 8 ∨ k = 11 ∨ k = 12 ∨ k = 13)
/-- The fields that the kind uses. -/
def usedS (p : Sec) : Sec :=
  if p.kind = 1 ∨ p.kind = 2 then ⟨p.kind, p.io, p.oob, p.bond, p.mitm, p.send, p.take, 0, 0, 0, 0, 0, 0⟩
  else if p.kind = 11 then ⟨p.kind, 0, false, p.bond, p.mitm, false, false, 0, 0, 0, 0, 0, 0⟩
  else if p.kind = 12 then ⟨p.kind, 0, false, false, false, false, false, p.pub, 0, 0, 0, 0, 0⟩
  else if p.kind = 8 then ⟨p.kind, 0, false, false, false, false, false, 0, 0, p.ak, p.ax, p.irk, 0⟩
  else if p.kind = 5 then ⟨p.kind, 0, false, false, false, false, false, 0, 0, 0, 0, 0, p.rsn⟩
  else ⟨p.kind, 0, false, false, false, false, false, 0, p.val, 0, 0, 0, 0⟩

theorem run_eql_sec (p q : Sec) (w : World) : (binOp .eql 53 (secV p) (secV q)).run Tryd.prog w = .ok (.bool (decide (p = q))) w := by
  generalize hd : decide (p = q) = r
  have HD := Lib.hid hd
  clear hd
  obtain ⟨a0, a1, a2, a3, a4, a5, a6, a7, a8, a9, a10, a11, a12⟩ := p
  obtain ⟨b0, b1, b2, b3, b4, b5, b6, b7, b8, b9, b10, b11, b12⟩ := q
  go_simp
  simp only [Int.natCast_inj]
  by_cases h : (⟨a0, a1, a2, a3, a4, a5, a6, a7, a8, a9, a10, a11, a12⟩ : Sec) = ⟨b0, b1, b2, b3, b4, b5, b6, b7, b8, b9, b10, b11, b12⟩
  · have hr := HD.out
    rw [decide_eq_true h] at hr
    subst hr
    cases h
    simp only [if_true]
  · have hr := HD.out
    rw [decide_eq_false h] at hr
    subst hr
    by_cases e0 : a0 = b0
    · rw [if_pos e0]
      by_cases e1 : a1 = b1
      · rw [if_pos e1]
        by_cases e2 : a2 = b2
        · rw [if_pos e2]
          by_cases e3 : a3 = b3
          · rw [if_pos e3]
            by_cases e4 : a4 = b4
            · rw [if_pos e4]
              by_cases e5 : a5 = b5
              · rw [if_pos e5]
                by_cases e6 : a6 = b6
                · rw [if_pos e6]
                  by_cases e7 : a7 = b7
                  · rw [if_pos e7]
                    by_cases e8 : a8 = b8
                    · rw [if_pos e8]
                      by_cases e9 : a9 = b9
                      · rw [if_pos e9]
                        by_cases e10 : a10 = b10
                        · rw [if_pos e10]
                          by_cases e11 : a11 = b11
                          · rw [if_pos e11]
                            by_cases e12 : a12 = b12
                            · rw [if_pos e12]
                              exact absurd (by rw [e0, e1, e2, e3, e4, e5, e6, e7, e8, e9, e10, e11, e12]) h
                            · rw [if_neg e12]
                          · rw [if_neg e11]
                        · rw [if_neg e10]
                      · rw [if_neg e9]
                    · rw [if_neg e8]
                  · rw [if_neg e7]
                · rw [if_neg e6]
              · rw [if_neg e5]
            · rw [if_neg e4]
          · rw [if_neg e3]
        · rw [if_neg e2]
      · rw [if_neg e1]
    · rw [if_neg e0]
theorem run_neq_sec (p q : Sec) (w : World) : (binOp .neq 53 (secV p) (secV q)).run Tryd.prog w = .ok (.bool (decide (p ≠ q))) w := by
  generalize hd : decide (p ≠ q) = r
  have HD := Lib.hid hd
  clear hd
  obtain ⟨a0, a1, a2, a3, a4, a5, a6, a7, a8, a9, a10, a11, a12⟩ := p
  obtain ⟨b0, b1, b2, b3, b4, b5, b6, b7, b8, b9, b10, b11, b12⟩ := q
  go_simp
  simp only [Int.natCast_inj]
  by_cases h : (⟨a0, a1, a2, a3, a4, a5, a6, a7, a8, a9, a10, a11, a12⟩ : Sec) = ⟨b0, b1, b2, b3, b4, b5, b6, b7, b8, b9, b10, b11, b12⟩
  · have hr := HD.out
    rw [decide_eq_false (not_not_intro h)] at hr
    subst hr
    cases h
    simp only [if_true]
  · have hr := HD.out
    rw [decide_eq_true h] at hr
    subst hr
    by_cases e0 : a0 = b0
    · rw [if_pos e0]
      by_cases e1 : a1 = b1
      · rw [if_pos e1]
        by_cases e2 : a2 = b2
        · rw [if_pos e2]
          by_cases e3 : a3 = b3
          · rw [if_pos e3]
            by_cases e4 : a4 = b4
            · rw [if_pos e4]
              by_cases e5 : a5 = b5
              · rw [if_pos e5]
                by_cases e6 : a6 = b6
                · rw [if_pos e6]
                  by_cases e7 : a7 = b7
                  · rw [if_pos e7]
                    by_cases e8 : a8 = b8
                    · rw [if_pos e8]
                      by_cases e9 : a9 = b9
                      · rw [if_pos e9]
                        by_cases e10 : a10 = b10
                        · rw [if_pos e10]
                          by_cases e11 : a11 = b11
                          · rw [if_pos e11]
                            by_cases e12 : a12 = b12
                            · rw [if_pos e12]
                              exact absurd (by rw [e0, e1, e2, e3, e4, e5, e6, e7, e8, e9, e10, e11, e12]) h
                            · rw [if_neg e12]
                          · rw [if_neg e11]
                        · rw [if_neg e10]
                      · rw [if_neg e9]
                    · rw [if_neg e8]
                  · rw [if_neg e7]
                · rw [if_neg e6]
              · rw [if_neg e5]
            · rw [if_neg e4]
          · rw [if_neg e3]
        · rw [if_neg e2]
      · rw [if_neg e1]
    · rw [if_neg e0]

/-- The error of features. -/
def chkF (io : Int) : Int := if 0 ≤ io ∧ io ≤ 4 then 0 else 5
set_option maxHeartbeats 400000 in
theorem mcheck_any (io : Int) (o b m s t : Bool) (w : World) : Calls Tryd.prog 53 #[feat io o b m s t] w fun e w' => e = .returned (.int .i64 (chkF io)) ∧ Below w.heap.size w w' := by
  by_cases h0 : io < 0
  · rw [show chkF io = 5 by unfold chkF; rw [if_neg (by omega)]]
    go_enter Tryd.func53, Tryd.ntmps53
    go_wp2
    go_ret
    exact ⟨rfl, (Below.refl _ _).alloc (Nat.le_refl _) _⟩
  · have h0' : 0 ≤ io := by omega
    by_cases h5 : 5 ≤ io
    · rw [show chkF io = 5 by unfold chkF; rw [if_neg (by omega)]]
      go_enter Tryd.func53, Tryd.ntmps53
      go_wp2
      go_ret
      exact ⟨rfl, (Below.refl _ _).alloc (Nat.le_refl _) _⟩
    · have h5' : io < 5 := by omega
      rw [show chkF io = 0 by unfold chkF; rw [if_pos (by omega)]]
      go_enter Tryd.func53, Tryd.ntmps53
      go_wp2
      go_ret
      exact ⟨rfl, (Below.refl _ _).alloc (Nat.le_refl _) _⟩
set_option maxHeartbeats 400000 in
theorem rmcheck_any (io : Int) (o b m s t : Bool) (w : World) : Calls Tryd.prog 56 #[feat io o b m s t] w fun e w' => e = .returned (.int .i64 (chkF io)) ∧ Below w.heap.size w w' := by
  by_cases h0 : io < 0
  · rw [show chkF io = 5 by unfold chkF; rw [if_neg (by omega)]]
    go_enter Tryd.func56, Tryd.ntmps56
    go_wp2
    go_ret
    exact ⟨rfl, (Below.refl _ _).alloc (Nat.le_refl _) _⟩
  · have h0' : 0 ≤ io := by omega
    by_cases h5 : 4 < io
    · rw [show chkF io = 5 by unfold chkF; rw [if_neg (by omega)]]
      go_enter Tryd.func56, Tryd.ntmps56
      go_wp2
      go_ret
      exact ⟨rfl, (Below.refl _ _).alloc (Nat.le_refl _) _⟩
    · have h5' : io ≤ 4 := by omega
      rw [show chkF io = 0 by unfold chkF; rw [if_pos (by omega)]]
      go_enter Tryd.func56, Tryd.ntmps56
      go_wp2
      go_ret
      exact ⟨rfl, (Below.refl _ _).alloc (Nat.le_refl _) _⟩

/-- The number of bytes of a PDU of a kind. -/
def lenK (k : Int) : Int := if k = 1 ∨ k = 2 then 3 else if k = 11 ∨ k = 5 then 2 else if k = 12 then 5 else if k = 3 ∨ k = 4 ∨ k = 13 then 9 else if k = 8 then 16 else 0
theorem length_any (k : Int) (w : World) : Calls Tryd.prog 54 #[.int .i64 k] w fun e w' => e = .returned (.int .i64 (lenK k)) ∧ w = w' := by
  by_cases h : hasK k = true
  · have h' := of_decide_eq_true h
    clear h
    rcases h' with rfl | rfl | rfl | rfl | rfl | rfl | rfl | rfl | rfl
    all_goals
      go_enter Tryd.func54, Tryd.ntmps54
      go_wp2
      go_ret
      exact ⟨rfl, rfl⟩
  · have h' : ¬ (k = 1 ∨ k = 2 ∨ k = 3 ∨ k = 4 ∨ k = 5 ∨ k = 8 ∨ k = 11 ∨ k = 12 ∨ k = 13) := fun hh => h (decide_eq_true hh)
    have hl : lenK k = 0 := by unfold lenK; rw [if_neg (by omega), if_neg (by omega), if_neg (by omega), if_neg (by omega), if_neg (by omega)]
    rw [hl]
    have f1 : (k == 1) = false := neq_bool (by omega)
    have f2 : (k == 2) = false := neq_bool (by omega)
    have f3 : (k == 3) = false := neq_bool (by omega)
    have f4 : (k == 4) = false := neq_bool (by omega)
    have f5 : (k == 5) = false := neq_bool (by omega)
    have f8 : (k == 8) = false := neq_bool (by omega)
    have f11 : (k == 11) = false := neq_bool (by omega)
    have f12 : (k == 12) = false := neq_bool (by omega)
    have f13 : (k == 13) = false := neq_bool (by omega)
    clear h h' hl
    go_enter Tryd.func54, Tryd.ntmps54
    go_wp2
    go_ret
    exact ⟨rfl, rfl⟩
end Go.Proofs.YtpomobeogkfmfaaDoor
