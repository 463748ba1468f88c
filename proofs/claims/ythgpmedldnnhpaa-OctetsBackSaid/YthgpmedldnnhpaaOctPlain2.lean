/- The plain mathematics of octets.Take: numbers read out of bytes. No condition. -/
import Derived.Test.YthgpmedldnnhpaaMem
import Derived.Laws.BitsAllLaws
namespace Go.Proofs.Ythgpmedldnnhpaa

/-- The number that bytes are, the first the least significant. -/
def leVal : List UInt8 → Nat
  | [] => 0
  | b :: l => b.toNat + 256 * leVal l
theorem leVal_snoc (l : List UInt8) (b : UInt8) : leVal (l ++ [b]) = leVal l + b.toNat * 2 ^ (8 * l.length) := by
  induction l with
  | nil => simp [leVal]
  | cons a l ih =>
    simp only [List.cons_append, leVal, ih, List.length_cons]
    have e : 2 ^ (8 * (l.length + 1)) = 256 * 2 ^ (8 * l.length) := by rw [Nat.mul_add, Nat.pow_add]; omega
    rw [e, Nat.mul_add, ← Nat.add_assoc, Nat.mul_left_comm]
theorem leVal_lt (l : List UInt8) : leVal l < 2 ^ (8 * l.length) := by
  induction l with
  | nil => simp [leVal]
  | cons a l ih =>
    have e : 2 ^ (8 * (l.length + 1)) = 256 * 2 ^ (8 * l.length) := by rw [Nat.mul_add, Nat.pow_add]; omega
    have := a.toNat_lt
    simp only [leVal, List.length_cons, e]
    omega
/-- A byte above what has been read. -/
theorem leVal_or (l : List UInt8) (b : UInt8) : leVal l ||| b.toNat * 2 ^ (8 * l.length) = leVal (l ++ [b]) := by
  rw [leVal_snoc, Nat.or_comm, ← Nat.shiftLeft_eq, ← Nat.shiftLeft_add_eq_or_of_lt (leVal_lt l), Nat.add_comm]

theorem wrapN (a : Nat) (ha : a < 18446744073709551616) : IntKind.u64.wrap (a : Int) = (a : Int) := by rw [IntKind.wrap_u64]; omega
theorem step_or (l : List UInt8) (b : UInt8) (h : l.length < 8) :
    bits .or .u64 ((leVal l : Nat) : Int) (IntKind.u64.wrap (IntKind.u64.wrap ((b.toNat : Nat) : Int) * 2 ^ (8 * l.length))) = ((leVal (l ++ [b]) : Nat) : Int) := by
  have hb := b.toNat_lt
  have h1 := leVal_lt (l ++ [b])
  have h2 := leVal_lt l
  have h64 : 2 ^ (8 * (l ++ [b]).length) ≤ 2 ^ 64 := Nat.pow_le_pow_right (by omega) (by simp; omega)
  have e64 : (2 : Nat) ^ 64 = 18446744073709551616 := by decide
  have hsn := leVal_snoc l b
  rw [wrapN _ (by omega)]
  have e : ((b.toNat : Nat) : Int) * 2 ^ (8 * l.length) = ((b.toNat * 2 ^ (8 * l.length) : Nat) : Int) := by push_cast; rfl
  rw [e, wrapN _ (by omega), u64_or_nat _ _ (by omega) (by omega), leVal_or]
theorem step_take {d : List UInt8} {j : Nat} (hj : j < d.length) (h8 : j < 8) :
    Value.int .u64 (bits .or .u64 ((leVal (d.take j) : Nat) : Int) (IntKind.u64.wrap (IntKind.u64.wrap ((d[j].toNat : Nat) : Int) * 2 ^ (8 * j)))) = .int .u64 ((leVal (d.take (j + 1)) : Nat) : Int) := by
  have h := step_or (d.take j) d[j] (by rw [List.length_take]; omega)
  rw [List.length_take, Nat.min_eq_left (by omega), ← List.take_succ_eq_append_getElem hj] at h
  rw [h]

def szok (n : Int) : Bool := decide (1 ≤ n ∧ n ≤ 8)
/-- Where number k begins. -/
def offs (sizes : List Int) (k : Nat) : Nat := ((sizes.take k).map Int.toNat).sum
theorem offs_zero (sizes : List Int) : offs sizes 0 = 0 := by simp [offs]
theorem offs_succ {sizes : List Int} {k : Nat} (hk : k < sizes.length) : offs sizes (k + 1) = offs sizes k + sizes[k].toNat := by
  unfold offs
  rw [List.take_succ_eq_append_getElem hk, List.map_append, List.sum_append]
  rfl
theorem offs_mono (sizes : List Int) {j k : Nat} (h : j ≤ k) : offs sizes j ≤ offs sizes k := by
  unfold offs
  have e : sizes.take k = sizes.take j ++ (sizes.take k).drop j := by
    conv => lhs; rw [← List.take_append_drop j (sizes.take k)]
    rw [List.take_take, Nat.min_eq_left h]
  rw [e]
  simp
theorem offs_le {sizes : List Int} (h : sizes.all szok = true) (k : Nat) (hk : k ≤ sizes.length) : offs sizes k ≤ 8 * k := by
  induction k with
  | zero => simp [offs_zero]
  | succ k ih =>
    rw [offs_succ (by omega)]
    have h1 := List.all_eq_true.1 h sizes[k] (List.getElem_mem _)
    unfold szok at h1
    have h2 := of_decide_eq_true h1
    have := ih (by omega)
    omega
/-- The numbers of these sizes at the beginning of bytes. -/
def takeV (l : List UInt8) (sizes : List Int) (k : Nat) : List Nat := (List.range k).map fun j => leVal ((l.drop (offs sizes j)).take (sizes.getD j 0).toNat)
theorem takeV_length (l : List UInt8) (sizes : List Int) (k : Nat) : (takeV l sizes k).length = k := by simp [takeV]
theorem takeV_succ (l : List UInt8) (sizes : List Int) (k : Nat) : takeV l sizes (k + 1) = takeV l sizes k ++ [leVal ((l.drop (offs sizes k)).take (sizes.getD k 0).toNat)] := by
  simp [takeV, List.range_succ]
/-- The error of Take: 0, if there is none. -/
def takeE (l : List UInt8) (sizes : List Int) : Int := if sizes.all szok = true then (if l.length < offs sizes sizes.length then 3 else 0) else 5
end Go.Proofs.Ythgpmedldnnhpaa
