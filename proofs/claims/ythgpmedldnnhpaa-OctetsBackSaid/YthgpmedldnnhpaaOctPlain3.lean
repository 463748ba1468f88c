/- The plain laws of reading back: fields out of their bytes, bytes out of their digits, bytes combined twice. No condition. -/
import Derived.Test.YthgpmedldnnhpaaOct7
import Derived.Test.YthgpmedldnnhpaaOctPlain2
namespace Go.Proofs.Ythgpmedldnnhpaa

theorem leVal_le (n x : Nat) : leVal (le n x) = x % 2 ^ (8 * n) := by
  induction n with
  | zero => simp [le, leVal, Nat.mod_one]
  | succ n ih =>
    rw [le_succ, leVal_snoc, ih, le_length, UInt8.toNat_ofNat', show 8 * (n + 1) = 8 * n + 8 by omega, Nat.pow_add, Nat.mod_mul, Nat.mul_comm (2 ^ (8 * n))]
theorem putS_back {l : List (Int × Nat)} : ∀ (k : Nat) (ys : List UInt8), k ≤ l.length → putS (l.take k) = some ys →
    ys.length = offs (l.map (·.1)) k ∧ ((l.take k).map (·.1)).all szok = true ∧ ∀ t, takeV (ys ++ t) (l.map (·.1)) k = (l.take k).map (·.2) := by
  intro k
  induction k with
  | zero => intro ys _ h; simp [putS] at h; subst h; simp [offs, takeV]
  | succ k ih =>
    intro ys hk h
    rw [putS_take (by omega)] at h
    cases hz : putS (l.take k) with
    | none => rw [hz] at h; cases h
    | some zs =>
      rw [hz] at h
      obtain ⟨h1, h2, h3⟩ := ih zs (by omega) hz
      unfold putStep at h
      split at h
      · cases h
      · rename_i zs' hzs
        obtain rfl : zs = zs' := Option.some.inj hzs
        split at h
        · rename_i hf
          have hf' : 1 ≤ l[k].1 ∧ l[k].1 ≤ 8 ∧ l[k].2 < 2 ^ (8 * l[k].1.toNat) := by unfold fok at hf; exact of_decide_eq_true hf
          have hget : (l.map (·.1))[k]'(by simp; omega) = l[k].1 := by simp
          simp only [Option.some.injEq] at h
          subst h
          refine ⟨?_, ?_, ?_⟩
          · rw [List.length_append, le_length, h1, offs_succ (by simp; omega), hget]
          · rw [List.take_succ_eq_append_getElem (by omega), List.map_append, List.all_append, h2]
            simp only [List.map_cons, List.map_nil, List.all_cons, List.all_nil, Bool.and_true, Bool.true_and]
            unfold szok
            exact decide_eq_true ⟨hf'.1, hf'.2.1⟩
          · intro t
            rw [takeV_succ, List.append_assoc, h3, List.take_succ_eq_append_getElem (by omega), List.map_append]
            have hd : (l.map (·.1)).getD k 0 = l[k].1 := by
              rw [List.getD_eq_getElem?_getD, List.getElem?_eq_getElem (by simp; omega), hget]; rfl
            rw [hd, ← h1, List.drop_left, List.take_left' (le_length _ _), leVal_le, Nat.mod_eq_of_lt hf'.2.2]
            rfl
        · cases h
theorem put_take {l : List (Int × Nat)} {ys : List UInt8} (h : putS l = some ys) (rest : List UInt8) :
    takeE (ys ++ rest) (l.map (·.1)) = 0 ∧ takeV (ys ++ rest) (l.map (·.1)) (l.map (·.1)).length = l.map (·.2) ∧ (ys ++ rest).drop (offs (l.map (·.1)) (l.map (·.1)).length) = rest := by
  obtain ⟨h1, h2, h3⟩ := putS_back l.length ys (Nat.le_refl _) (by rw [List.take_length]; exact h)
  rw [List.take_length] at h2 h3
  rw [List.length_map]
  refine ⟨?_, h3 rest, by rw [← h1, List.drop_left]⟩
  unfold takeE
  rw [if_pos h2, List.length_map, ← h1, if_neg (by simp)]

theorem hexS_at {l : List UInt8} {k : Nat} (hk : k < l.length) : (hexS l).getD (2 * k) 0 = dig (l[k].toNat / 16) ∧ (hexS l).getD (2 * k + 1) 0 = dig (l[k].toNat % 16) := by
  induction l generalizing k with
  | nil => simp at hk
  | cons b l ih =>
    cases k with
    | zero => simp [hexS]
    | succ k =>
      have := ih (k := k) (by simpa using hk)
      simp only [hexS, List.flatMap_cons] at *
      have e1 : 2 * (k + 1) = 2 * k + 2 := by omega
      have e2 : 2 * (k + 1) + 1 = 2 * k + 1 + 2 := by omega
      rw [e2, e1]
      simpa using this
theorem nib_dig {n : Nat} (h : n < 16) : nib (dig n) = n := by
  have key : ∀ i : Fin 16, nib (dig i) = i := by decide
  exact key ⟨n, h⟩
theorem unhex_hex (l : List UInt8) : unhexS (hexS l) = some l := by
  have key : ∀ k, k ≤ l.length → unhexP (hexS l) k = some (l.take k) := by
    intro k
    induction k with
    | zero => intro _; simp [unhexP]
    | succ k ih =>
      intro hk
      obtain ⟨h1, h2⟩ := hexS_at (l := l) (k := k) (by omega)
      have hb := l[k].toNat_lt
      rw [unhexP, ih (by omega), h1, h2, nib_dig (by omega), nib_dig (by omega)]
      simp only
      rw [if_pos (by omega), List.take_succ_eq_append_getElem (by omega)]
      have e : 16 * (l[k].toNat / 16) + l[k].toNat % 16 = l[k].toNat := by omega
      rw [e, UInt8.ofNat_toNat]
  unfold unhexS
  rw [hexS_length, if_pos (by omega), show 2 * l.length / 2 = l.length by omega, key _ (Nat.le_refl _), List.take_length]
theorem xorS_back (l : List UInt8) : xorS (xorS l l) l = l := by
  induction l with
  | nil => rfl
  | cons a l ih =>
    unfold xorS at *
    simp only [List.zipWith_cons_cons, ih]
    simp
end Go.Proofs.Ythgpmedldnnhpaa
