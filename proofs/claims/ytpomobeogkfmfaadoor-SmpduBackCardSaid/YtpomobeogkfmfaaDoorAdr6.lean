/- Walks of package address and its reference: digit, find. -/
import Derived.Test.YtpomobeogkfmfaaDoorAdr5
namespace Go.Proofs.YtpomobeogkfmfaaDoor
open Go.RowKit

/-- The hexadecimal digits, the great letters. -/
def hexU : List UInt8 := [48, 49, 50, 51, 52, 53, 54, 55, 56, 57, 65, 66, 67, 68, 69, 70]
/-- The number of a digit, 16 if it is none. -/
def nibU (c : Nat) : Nat := if 48 ≤ c ∧ c ≤ 57 then c - 48 else if 65 ≤ c ∧ c ≤ 70 then c - 55 else 16

set_option maxHeartbeats 1000000 in
theorem digit_yes (c : Nat) (hc : nibU c < 16) (w : World) : Calls Tryd.prog 45 #[.int .u8 (c : Int)] w fun e w' => e = .returned (.tuple #[.int .u64 (nibU c : Nat), .bool true]) ∧ w = w' := by
  by_cases h : 48 ≤ c ∧ c ≤ 57
  · obtain ⟨h1, h2⟩ := h
    have hv : nibU c = c - 48 := by unfold nibU; rw [if_pos ⟨h1, h2⟩]
    have e1 : IntKind.u8.wrap ((c : Int) - 48) = ((c - 48 : Nat) : Int) := by rw [IntKind.wrap_u8]; omega
    have e2 : IntKind.u64.wrap ((c - 48 : Nat) : Int) = ((c - 48 : Nat) : Int) := by rw [IntKind.wrap_u64]; omega
    rw [hv]
    clear hv hc
    go_enter Tryd.func45, Tryd.ntmps45
    go_wp2_with fail
    go_ret2
    exact ⟨by simp, rfl⟩
  · have h2 : 65 ≤ c ∧ c ≤ 70 := by unfold nibU at hc; rw [if_neg h] at hc; split at hc <;> omega
    obtain ⟨h1, h2⟩ := h2
    have hv : nibU c = c - 55 := by unfold nibU; rw [if_neg h, if_pos ⟨h1, h2⟩]
    have e0 : ¬ (c ≤ 57) := by omega
    have e3 : 48 ≤ c := by omega
    have e1 : IntKind.u8.wrap ((c : Int) - 65) = ((c - 65 : Nat) : Int) := by rw [IntKind.wrap_u8]; omega
    have e2 : IntKind.u64.wrap ((c - 65 : Nat) : Int) = ((c - 65 : Nat) : Int) := by rw [IntKind.wrap_u64]; omega
    have e4 : IntKind.u64.wrap (((c - 65 : Nat) : Int) + 10) = ((c - 55 : Nat) : Int) := by rw [IntKind.wrap_u64]; omega
    rw [hv]
    clear hv hc h
    go_enter Tryd.func45, Tryd.ntmps45
    go_wp2_with fail
    go_ret2
    exact ⟨by simp, rfl⟩

set_option maxHeartbeats 1000000 in
theorem digit_no (c : Nat) (hc : ¬ nibU c < 16) (w : World) : Calls Tryd.prog 45 #[.int .u8 (c : Int)] w fun e w' => e = .returned (.tuple #[.int .u64 0, .bool false]) ∧ w = w' := by
  have h1 : c < 48 ∨ (57 < c ∧ c < 65) ∨ 70 < c := by
    unfold nibU at hc
    split at hc
    · omega
    · split at hc <;> omega
  clear hc
  rcases h1 with h | ⟨h1, h2⟩ | h
  · go_enter Tryd.func45, Tryd.ntmps45
    go_wp2_with fail
    go_ret2
    exact ⟨rfl, rfl⟩
  · have e3 : 48 ≤ c := by omega
    go_enter Tryd.func45, Tryd.ntmps45
    go_wp2_with fail
    go_ret2
    exact ⟨rfl, rfl⟩
  · have e3 : 48 ≤ c := by omega
    have e4 : 65 ≤ c := by omega
    have e5 : 57 < c := by omega
    go_enter Tryd.func45, Tryd.ntmps45
    go_wp2_with fail
    go_ret2
    exact ⟨rfl, rfl⟩
end Go.Proofs.YtpomobeogkfmfaaDoor
