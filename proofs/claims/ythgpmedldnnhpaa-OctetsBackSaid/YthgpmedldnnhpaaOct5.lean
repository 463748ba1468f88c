/- Walks of package octets: nibble, Hex. -/
import Derived.Test.YthgpmedldnnhpaaOct4
import Derived.Test.YthgpmedldnnhpaaMem3
namespace Go.Proofs.Ythgpmedldnnhpaa
open Go.RowKit

/-- The hexadecimal digits. -/
def hexD : List UInt8 := [48, 49, 50, 51, 52, 53, 54, 55, 56, 57, 97, 98, 99, 100, 101, 102]
/-- The number of a digit, 16 if it is none. -/
def nib (c : UInt8) : Nat := hexD.idxOf c

/-- None of the first i digits is c. -/
def NotBefore (c : UInt8) (i : Nat) : Prop := ∀ j (h : j < hexD.length), j < i → hexD[j] ≠ c
theorem nib_at {c : UInt8} {i : Nat} (hi : i < hexD.length) (he : hexD[i] = c) : nib c = i := by
  subst he
  have key : ∀ i : Fin 16, nib (hexD.getD i 0) = i := by decide
  have h := key ⟨i, hi⟩
  simpa [List.getD, hi] using h
theorem nib_none {c : UInt8} (hb : NotBefore c 16) : nib c = 16 := by
  refine List.idxOf_eq_length ?_
  intro h
  obtain ⟨j, hj, he⟩ := List.getElem_of_mem h
  exact hb j hj hj he
theorem hexB_at (j : Nat) (_h : j < (ByteArray.mk #[48, 49, 50, 51, 52, 53, 54, 55, 56, 57, 97, 98, 99, 100, 101, 102]).size) (h' : j < hexD.length) :
    (ByteArray.mk #[48, 49, 50, 51, 52, 53, 54, 55, 56, 57, 97, 98, 99, 100, 101, 102])[j] = hexD[j] := rfl

/-- What nibble returns. -/
def nibE (c : UInt8) : Ending := if nib c < 16 then .returned (.tuple #[.int .u8 (nib c : Int), .bool true]) else .returned (.tuple #[.int .u8 0, .bool false])

set_option maxRecDepth 100000 in
set_option maxHeartbeats 400000 in
theorem nibble_any (c : UInt8) (w : World) : Calls Try.prog 28 #[.int .u8 (c.toNat : Int)] w fun e w' => e = nibE c ∧ w = w' := by
  go_enter Try.func28, Try.ntmps28
  go_wp2_with fail
  go_loop [5] (fun i => ∃ j : Nat, j ≤ 16 ∧ i = .int .i64 j ∧ NotBefore c j) (fun i => 16 - (intOf i).toNat)
  case atStart => exact ⟨0, by omega, rfl, fun j _ h => absurd h (by omega)⟩
  case round =>
    obtain ⟨j, hj, rfl, hb⟩ := hrel
    have HB := Lib.hid hb
    clear hb
    by_cases hlt : j < 16
    · go_wp2_with fail
      · have ht := ‹((_ : Int) == ((c.toNat : Nat) : Int)) = true›
        rw [hexB_at j hlt hlt] at ht
        have hc : hexD[j]'hlt = c := UInt8.toNat_inj.1 (by have := beq_iff_eq.1 ht; omega)
        have hn := nib_at hlt hc
        go_ret2
        refine ⟨?_, rfl⟩
        unfold nibE
        rw [hn, if_pos hlt]
        rfl
      · have ht := ‹((_ : Int) == ((c.toNat : Nat) : Int)) = false›
        rw [hexB_at j hlt hlt] at ht
        have hc : hexD[j]'hlt ≠ c := fun e => by rw [e] at ht; simp at ht
        have HC := Lib.hid hc
        clear ht hc
        go_round
        case rel => exact ⟨j + 1, by omega, by go_num, fun i h hi => by
          rcases Nat.lt_or_ge i j with h1 | h1
          · exact HB.out i h h1
          · obtain rfl : i = j := by omega
            exact HC.out⟩
        case measure => simp [intOf]; omega
    · go_wp2_with fail
      go_ret2
      refine ⟨?_, rfl⟩
      obtain rfl : j = 16 := by omega
      unfold nibE
      rw [nib_none HB.out, if_neg (by omega)]
      rfl
end Go.Proofs.Ythgpmedldnnhpaa
