/- The plain mathematics of package octets: fields as bytes, bytes as numbers, hexadecimal digits. No condition. -/
import Derived.Test.YthgpmedldnnhpaaMem
namespace Go.Proofs.Ythgpmedldnnhpaa

/-- The n lowest bytes of x, the least significant first. -/
def le (n x : Nat) : List UInt8 := (List.range n).map fun i => UInt8.ofNat (x / 2 ^ (8 * i))
theorem le_length (n x : Nat) : (le n x).length = n := by simp [le]
theorem le_succ (n x : Nat) : le (n + 1) x = le n x ++ [UInt8.ofNat (x / 2 ^ (8 * n))] := by simp [le, List.range_succ]

theorem shr_ne (x k : Nat) : (((x : Int) / 2 ^ k) != 0) = !decide (x < 2 ^ k) := by
  have e : ((x : Int) / 2 ^ k) = ((x / 2 ^ k : Nat) : Int) := by push_cast; rfl
  rw [e]
  by_cases h : x < 2 ^ k
  · rw [Nat.div_eq_of_lt h]; simp [h]
  · have : 0 < x / 2 ^ k := Nat.div_pos (by omega) (Nat.two_pow_pos k)
    simp only [h, decide_false, Bool.not_false]
    rw [bne_iff_ne]; omega

theorem byte_cell (x k : Nat) : Value.int .u8 ((x : Int) / 2 ^ k % 256) = .int .u8 ((UInt8.ofNat (x / 2 ^ k)).toNat : Int) := by
  have e : ((x : Int) / 2 ^ k) = ((x / 2 ^ k : Nat) : Int) := by push_cast; rfl
  rw [e, UInt8.toNat_ofNat']
  rfl
theorem bys_le_succ (ys : List UInt8) (n x : Nat) : bys (ys ++ le n x) ++ [Value.int .u8 ((x : Int) / 2 ^ (8 * n) % 256)] = bys (ys ++ le (n + 1) x) := by
  rw [byte_cell, le_succ, ← List.append_assoc, bys_append (ys ++ le n x)]
  simp [bys]

/-- May the field be written? -/
def fok (f : Int × Nat) : Bool := decide (1 ≤ f.1 ∧ f.1 ≤ 8 ∧ f.2 < 2 ^ (8 * f.1.toNat))
def putStep (acc : Option (List UInt8)) (f : Int × Nat) : Option (List UInt8) :=
  match acc with
  | none => none
  | some ys => if fok f = true then some (ys ++ le f.1.toNat f.2) else none
/-- The bytes of fields. -/
def putS (l : List (Int × Nat)) : Option (List UInt8) := l.foldl putStep (some [])
theorem putS_none (l : List (Int × Nat)) : l.foldl putStep none = none := by induction l with
  | nil => rfl
  | cons f l ih => exact ih
theorem putS_snoc (l : List (Int × Nat)) (f : Int × Nat) : putS (l ++ [f]) = putStep (putS l) f := by simp [putS, List.foldl_append]
theorem putS_take {l : List (Int × Nat)} {k : Nat} (hk : k < l.length) : putS (l.take (k + 1)) = putStep (putS (l.take k)) l[k] := by
  rw [List.take_succ_eq_append_getElem hk, putS_snoc]
theorem putS_bad {l : List (Int × Nat)} {k : Nat} (hk : k < l.length) (hf : fok l[k] = false) : putS l = none := by
  have h : l = l.take (k + 1) ++ l.drop (k + 1) := (List.take_append_drop _ _).symm
  rw [h, putS, List.foldl_append]
  have e : (l.take (k + 1)).foldl putStep (some []) = none := by
    have h1 := putS_take hk
    have h2 : putStep (putS (l.take k)) l[k] = none := by
      unfold putStep
      split
      · rfl
      · rw [if_neg (by rw [hf]; exact Bool.false_ne_true)]
    exact h1.trans h2
  rw [e, putS_none]
theorem putS_len {l : List (Int × Nat)} : ∀ (k : Nat) (ys : List UInt8), k ≤ l.length → putS (l.take k) = some ys → ys.length ≤ 8 * k := by
  intro k
  induction k with
  | zero => intro ys _ h; simp [putS] at h; subst h; simp
  | succ k ih =>
    intro ys hk h
    rw [putS_take (by omega)] at h
    cases hz : putS (l.take k) with
    | none => rw [hz] at h; cases h
    | some zs =>
      rw [hz] at h
      have h1 := ih zs (by omega) hz
      unfold putStep at h
      split at h
      · cases h
      · rename_i zs' hzs
        obtain rfl : zs = zs' := Option.some.inj hzs
        split at h
        · rename_i hf
          have h2 : l[k].1.toNat ≤ 8 := by unfold fok at hf; have := of_decide_eq_true hf; omega
          simp only [Option.some.injEq] at h
          subst h
          simp only [List.length_append, le_length]
          omega
        · cases h

/-- The cells of fields. -/
def flds (l : List (Int × Nat)) : List Value := l.flatMap fun f => [.int .i64 f.1, .int .u64 (f.2 : Int)]
theorem flds_length (l : List (Int × Nat)) : (flds l).length = l.length * 2 := by
  induction l with
  | nil => rfl
  | cons f l ih => simp only [flds, List.flatMap_cons, List.length_append, List.length_cons, List.length_nil] at *; omega
theorem flds_at {l : List (Int × Nat)} {k : Nat} (hk : k < l.length) : (flds l)[k * 2]? = some (.int .i64 l[k].1) ∧ (flds l)[k * 2 + 1]? = some (.int .u64 (l[k].2 : Int)) := by
  induction l generalizing k with
  | nil => simp at hk
  | cons f l ih =>
    cases k with
    | zero => simp [flds]
    | succ k =>
      have := ih (k := k) (by simpa using hk)
      simp only [flds, List.flatMap_cons] at *
      have e1 : (k + 1) * 2 = k * 2 + 2 := by omega
      have e2 : (k + 1) * 2 + 1 = k * 2 + 1 + 2 := by omega
      rw [e2, e1]
      simpa using this
theorem flds_one (l : List (Int × Nat)) : ∀ u ∈ flds l, u.oneCell' = true := by
  intro u hu
  simp only [flds, List.mem_flatMap] at hu
  obtain ⟨f, _, hf⟩ := hu
  simp at hf
  rcases hf with rfl | rfl <;> rfl
end Go.Proofs.Ythgpmedldnnhpaa
