/- Walks of the reference of package address: find, Text. -/
import Derived.Test.YtpomobeogkfmfaaDoorAdr8
import Derived.Test.YtpomobeogkfmfaaDoorNum
namespace Go.Proofs.YtpomobeogkfmfaaDoor
open Go.RowKit

/-- The index of the first letter c, the length if there is none. -/
def fnd (l : List UInt8) (c : Nat) : Nat := l.findIdx fun b => b.toNat == c
theorem fnd_step {l : List UInt8} {c k : Nat} (hk : k < l.length) (h : ∀ j (hj : j < k), (l[j]'(by omega)).toNat ≠ c) (hc : l[k].toNat = c) : fnd l c = k := by
  unfold fnd
  rw [List.findIdx_eq hk]
  exact ⟨by simpa using hc, fun j hj => by simpa using h j hj⟩
theorem fnd_none {l : List UInt8} {c : Nat} (h : ∀ j (hj : j < l.length), l[j].toNat ≠ c) : fnd l c = l.length := by
  unfold fnd
  rw [List.findIdx_eq_length]
  intro x hx
  obtain ⟨i, hi, rfl⟩ := List.getElem_of_mem hx
  simpa using h i hi

def fndI (l : List UInt8) (c : Nat) : Int := if fnd l c < l.length then (fnd l c : Int) else -1

set_option maxHeartbeats 1000000 in
theorem find_any (s : ByteArray) (c : Nat) (hs : s.size ≤ 100) (w : World) : Calls Tryd.prog 46 #[.string s, .int .u8 (c : Int)] w fun e w' => e = .returned (.int .i64 (fndI s.data.toList c)) ∧ w = w' := by
  go_enter Tryd.func46, Tryd.ntmps46
  go_wp2_with fail
  go_loop [5] (fun i => ∃ k : Nat, k ≤ s.size ∧ i = .int .i64 k ∧ ∀ j (hj : j < k) (hs : j < s.data.toList.length), s.data.toList[j].toNat ≠ c) (fun i => s.size - (intOf i).toNat)
  case atStart => exact ⟨0, Nat.zero_le _, rfl, fun j hj => absurd hj (by omega)⟩
  case round =>
    obtain ⟨k, hk, rfl, hall⟩ := hrel
    have HA := Lib.hid hall
    clear hall
    by_cases hlt : k < s.size
    · have he : (s[k]).toNat = (s.data.toList[k]'(by simpa using hlt)).toNat := rfl
      have HE := Lib.hid he
      clear he
      by_cases hc : (s[k]).toNat = c
      · have hne : (((s[k]).toNat : Int) == (c : Int)) = true := eqq_bool (by omega)
        have HC := Lib.hid hc
        clear hc
        go_wp2_with fail
        go_ret
        refine ⟨ret_int ?_, rfl⟩
        have h1 : fnd s.data.toList c = k := fnd_step (by simpa using hlt) (fun j hj => HA.out j hj (by simp; exact Nat.lt_trans hj hlt)) (HE.out.symm.trans HC.out)
        unfold fndI
        rw [h1, if_pos (by simpa using hlt)]
      · have hne : (((s[k]).toNat : Int) == (c : Int)) = false := neq_bool (by omega)
        have HC := Lib.hid hc
        clear hc
        go_wp2_with fail
        go_round
        case rel =>
          refine ⟨k + 1, by omega, by go_num, fun j hj hs' => ?_⟩
          rcases Nat.lt_or_ge j k with h | h
          · exact HA.out j h hs'
          · obtain rfl : j = k := by omega
            have := HE.out
            have := HC.out
            omega
        case measure => simp [intOf]; omega
    · go_wp2_with fail
      go_ret
      refine ⟨ret_int ?_, rfl⟩
      have h1 : fnd s.data.toList c = s.data.toList.length := fnd_none (fun j hj => HA.out j (by simp at hj; exact Nat.lt_of_lt_of_le hj (by omega)) hj)
      unfold fndI
      rw [if_neg (by omega)]

/-- The groups of an address's text as the reference lays them. -/
def txtQ (x i : Nat) : List UInt8 := (if i = 0 then [] else [58]) ++ [digU (x / 2 ^ (40 - 8 * i) % 256 / 16), digU (x / 2 ^ (40 - 8 * i) % 256 % 16)]
def txtR (x j : Nat) : List UInt8 := (List.range j).flatMap (txtQ x)
theorem txtR_succ (x j : Nat) : txtR x (j + 1) = txtR x j ++ txtQ x j := by simp [txtR, List.range_succ]
theorem txtR_length (x j : Nat) : (txtR x j).length = if j = 0 then 0 else 3 * j - 1 := by
  induction j with
  | zero => rfl
  | succ j ih =>
    rw [txtR_succ, List.length_append, ih]
    unfold txtQ
    rcases j with _ | j
    · rfl
    · simp; omega
theorem txtR_6 (x : Nat) : txtR x 6 = (txtP x 6).dropLast := by
  have e : ∀ i, i < 6 → x / 2 ^ (40 - 8 * i) % 256 / 16 = x / 2 ^ (44 - 8 * i) % 16 ∧ x / 2 ^ (40 - 8 * i) % 256 % 16 = x / 2 ^ (40 - 8 * i) % 16 := by
    intro i hi
    have e2 : 2 ^ (44 - 8 * i) = 2 ^ (40 - 8 * i) * 16 := by rw [show 44 - 8 * i = 40 - 8 * i + 4 by omega, Nat.pow_add]
    rw [e2, ← Nat.div_div_eq_div_mul]
    omega
  have h0 := e 0 (by omega)
  have h1 := e 1 (by omega)
  have h2 := e 2 (by omega)
  have h3 := e 3 (by omega)
  have h4 := e 4 (by omega)
  have h5 := e 5 (by omega)
  show txtQ x 0 ++ (txtQ x 1 ++ (txtQ x 2 ++ (txtQ x 3 ++ (txtQ x 4 ++ (txtQ x 5 ++ []))))) = (txtG x 0 ++ (txtG x 1 ++ (txtG x 2 ++ (txtG x 3 ++ (txtG x 4 ++ (txtG x 5 ++ [])))))).dropLast
  unfold txtQ txtG
  rw [h0.1, h0.2, h1.1, h1.2, h2.1, h2.2, h3.1, h3.2, h4.1, h4.2, h5.1, h5.2]
  rfl
theorem txtS_ref {k : Int} (x : Nat) (hc : chkA k x = 0) : txtS k x = txtR x 6 ++ [47, UInt8.ofNat (letN k)] := by
  unfold txtS
  rw [if_neg (by simp [hc]), txtR_6]
end Go.Proofs.YtpomobeogkfmfaaDoor
