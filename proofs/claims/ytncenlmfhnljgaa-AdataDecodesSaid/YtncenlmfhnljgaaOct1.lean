/- Facts of element types; the walk of octets.sized. No condition. -/
import Derived.Test.YtncenlmfhnljgaaOctPlain
namespace Go.Proofs.Ytncenlmfhnljgaa
open Go.RowKit

theorem elB : El Try.prog 24 5 1 1 := el_mk Try.underlying24 (z := .int .u8 0) (by kernel_rfl) rfl (by omega) (by omega)
theorem elN : El Try.prog 53 56 1 8 := el_mk Try.underlying53 (z := .int .u64 0) (by kernel_rfl) rfl (by omega) (by omega)
theorem elI : El Try.prog 61 3 1 8 := el_mk Try.underlying61 (z := .int .i64 0) (by kernel_rfl) rfl (by omega) (by omega)
theorem elP : El Try.prog 64 24 1 24 := el_mk Try.underlying64 (z := .slice none 0 0) (by kernel_rfl) rfl (by omega) (by omega)

set_option maxHeartbeats 400000 in
theorem sized_yes (n : Int) (w : World) (h1 : 1 ≤ n) (h2 : n ≤ 8) : Calls Try.prog 33 #[.int .i64 n] w fun e w' => e = .returned (.bool true) ∧ w = w' := by
  go_enter Try.func33, Try.ntmps33
  go_wp2
  go_ret
  exact ⟨rfl, rfl⟩
set_option maxHeartbeats 400000 in
theorem sized_no (n : Int) (w : World) (h : n < 1 ∨ 8 < n) : Calls Try.prog 33 #[.int .i64 n] w fun e w' => e = .returned (.bool false) ∧ w = w' := by
  rcases h with h | h
  · go_enter Try.func33, Try.ntmps33
    go_wp2
    go_ret
    exact ⟨rfl, rfl⟩
  · have h' : 1 ≤ n := by omega
    have h'' : decide (n ≤ 8) = false := by simp; omega
    go_enter Try.func33, Try.ntmps33
    go_wp2
    go_ret
    exact ⟨rfl, rfl⟩
end Go.Proofs.Ytncenlmfhnljgaa
