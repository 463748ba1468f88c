/- The plain law of segments that arrive in any order. No condition. -/
import Derived.Test.YtkpjinkkjbljkaaTq5
namespace Go.Proofs.Ytkpjinkkjbljkaa
open Go.RowKit

/-- The number whose bits are these. -/
def blkOf : List Bool → Nat
  | [] => 0
  | b :: r => (if b then 1 else 0) + 2 * blkOf r
theorem blkOf_cons (b : Bool) (r : List Bool) : blkOf (b :: r) = (if b then 1 else 0) + 2 * blkOf r := rfl
theorem blkOf_lt : ∀ s : List Bool, blkOf s < 2 ^ s.length
  | [] => by simp [blkOf]
  | b :: r => by
    have h := blkOf_lt r
    rw [List.length_cons, Nat.pow_succ]
    unfold blkOf
    split <;> omega
theorem blkOf_bit : ∀ (s : List Bool) (k : Nat), blkOf s / 2 ^ k % 2 = if s.getD k false = true then 1 else 0
  | [], k => by simp [blkOf]
  | b :: r, 0 => by
    unfold blkOf
    rw [Nat.pow_zero, Nat.div_one, List.getD_cons_zero]
    cases b <;> simp <;> omega
  | b :: r, k + 1 => by
    have h := blkOf_bit r k
    rw [List.getD_cons_succ, ← h, blkOf_cons]
    have e : ((if b = true then 1 else 0) + 2 * blkOf r) / 2 ^ (k + 1) = blkOf r / 2 ^ k := by
      rw [Nat.pow_succ, Nat.mul_comm (2 ^ k) 2, ← Nat.div_div_eq_div_mul]
      congr 1
      split <;> omega
    rw [e]
theorem blkOf_set : ∀ (s : List Bool) (k : Nat), k < s.length → s.getD k false = false → blkOf (s.set k true) = blkOf s + 2 ^ k
  | [], k, h, _ => by simp at h
  | b :: r, 0, _, h => by
    rw [List.getD_cons_zero] at h
    subst h
    simp [blkOf]
    omega
  | b :: r, k + 1, hk, h => by
    rw [List.getD_cons_succ] at h
    have h1 := blkOf_set r k (by simpa using hk) h
    rw [List.set_cons_succ]
    unfold blkOf
    rw [h1, Nat.pow_succ]
    omega
theorem blkOf_full : ∀ s : List Bool, blkOf s = full s.length ↔ s.all id = true
  | [] => by simp [blkOf, full]
  | b :: r => by
    have h := blkOf_full r
    have h2 := blkOf_lt r
    have h3 : 1 ≤ 2 ^ r.length := Nat.one_le_two_pow
    rw [List.all_cons]
    unfold full at *
    rw [List.length_cons, Nat.pow_succ]
    unfold blkOf
    cases b
    · simp
      omega
    · simp only [if_true, id_eq, Bool.true_and]
      rw [← h]
      omega
theorem blkOf_none (n : Nat) : blkOf (List.replicate n false) = 0 := by
  induction n with
  | zero => rfl
  | succ n ih => rw [List.replicate_succ]; unfold blkOf; rw [ih]; rfl
/-- The parts that have come. -/
def partsOf (l : List UInt8) (s : List Bool) : List (List UInt8) := (List.range s.length).map fun j => if s.getD j false = true then chunk l j else []
theorem partsOf_len (l : List UInt8) (s : List Bool) : (partsOf l s).length = s.length := by simp [partsOf]
theorem partsOf_at {l : List UInt8} {s : List Bool} {j : Nat} (h : j < s.length) : (partsOf l s)[j]? = some (if s.getD j false = true then chunk l j else []) := by simp [partsOf, h]
theorem partsOf_set (l : List UInt8) (s : List Bool) (k : Nat) : (partsOf l s).set k (chunk l k) = partsOf l (s.set k true) := by
  apply List.ext_getElem?
  intro j
  by_cases hj : j < s.length
  · rw [partsOf_at (s := s.set k true) (by simpa using hj)]
    by_cases hjk : k = j
    · subst hjk
      rw [List.getElem?_set_self (by rw [partsOf_len]; exact hj)]
      simp [hj]
    · rw [List.getElem?_set_ne hjk, partsOf_at hj]
      simp [List.getElem?_set_ne hjk]
  · rw [List.getElem?_eq_none (by rw [List.length_set, partsOf_len]; omega), List.getElem?_eq_none (by rw [partsOf_len, List.length_set]; omega)]
theorem partsOf_none (l : List UInt8) (n : Nat) : partsOf l (List.replicate n false) = List.replicate n [] := by
  apply List.ext_getElem?
  intro j
  by_cases hj : j < n
  · rw [partsOf_at (by simpa using hj)]
    simp [hj]
  · rw [List.getElem?_eq_none (by rw [partsOf_len]; simp; omega), List.getElem?_eq_none (by simp; omega)]
theorem partsOf_all {l : List UInt8} {s : List Bool} (h : s.all id = true) : partsOf l s = chunks l s.length := by
  unfold partsOf chunks
  apply List.map_congr_left
  intro j hj
  have hjl := List.mem_range.1 hj
  have h1 : s.getD j false = true := by
    rw [List.getD_eq_getElem?_getD, List.getElem?_eq_getElem hjl]
    have := List.all_eq_true.1 h _ (List.getElem_mem hjl)
    simpa using this
  rw [if_pos h1]
theorem chunks_flat : ∀ (n : Nat) (l : List UInt8), (chunks l n).flatten = l.take (12 * n) := by
  intro n
  induction n with
  | zero => intro l; simp [chunks]
  | succ n ih =>
    intro l
    rw [chunks_succ, List.flatten_append, ih]
    simp only [List.flatten_cons, List.flatten_nil, List.append_nil]
    unfold chunk
    rw [Nat.mul_succ, List.take_add]
theorem chunks_whole (l : List UInt8) : (chunks l (cntP l)).flatten = l := by
  rw [chunks_flat, List.take_of_length_le]
  unfold cntP
  omega
end Go.Proofs.Ytkpjinkkjbljkaa
