/- The plain mathematics of PDUs of the lower transport layer: they are read again from their bytes, and bytes that are accepted are theirs. No condition. -/
import Derived.Test.YtkpjinkkjbljkaaTr12
namespace Go.Proofs.Ytkpjinkkjbljkaa

theorem leVal_mod (n x : Nat) : leVal (le n x) = x % 2 ^ (8 * n) := by
  induction n with
  | zero => simp [le, leVal, Nat.mod_one]
  | succ n ih =>
    rw [le_succ, leVal_snoc, ih, le_length, UInt8.toNat_ofNat', show 8 * (n + 1) = 8 * n + 8 by omega, Nat.pow_add, Nat.mod_mul, Nat.mul_comm (2 ^ (8 * n))]
theorem leVal_same : ∀ (l k : List UInt8), l.length = k.length → leVal l = leVal k → l = k
  | [], [], _, _ => rfl
  | a :: l, b :: k, hl, hv => by
    have h1 := a.toNat_lt
    have h2 := b.toNat_lt
    simp only [leVal] at hv
    have e1 : a = b := UInt8.toNat_inj.1 (by omega)
    have e2 := leVal_same l k (by simpa using hl) (by omega)
    rw [e1, e2]
  | [], _ :: _, hl, _ => by cases hl
  | _ :: _, [], hl, _ => by cases hl
theorem byte_back (x : UInt8) : UInt8.ofNat x.toNat = x := UInt8.toNat_inj.1 (by rw [UInt8.toNat_ofNat']; have := x.toNat_lt; omega)
theorem le_leVal (l : List UInt8) (n : Nat) (h : l.length = n) : le n (leVal l) = l := by
  refine leVal_same _ _ (by rw [le_length, h]) ?_
  rw [leVal_mod]
  have h1 := leVal_lt l
  rw [h] at h1
  exact Nat.mod_eq_of_lt h1
theorem leVal_bound (l : List UInt8) (n : Nat) (h : l.length ≤ n) : leVal l < 2 ^ (8 * n) :=
  Nat.lt_of_lt_of_le (leVal_lt l) (Nat.pow_le_pow_right (by omega) (by omega))
theorem le_1 (x : Nat) : le 1 x = [UInt8.ofNat x] := by simp [le]
theorem b0_cons (x : Nat) (l : List UInt8) (h : x < 256) : b0 (UInt8.ofNat x :: l) = x := by
  unfold b0
  show (UInt8.ofNat x).toNat = x
  rw [UInt8.toNat_ofNat']
  omega
theorem drop_take {a : List UInt8} {n : Nat} (b : List UInt8) (h : a.length = n) : (a ++ b).take n = a := List.take_left' h
theorem drop_app {a : List UInt8} {n : Nat} (b : List UInt8) (h : a.length = n) : (a ++ b).drop n = b := List.drop_left' h
theorem fl_8192 (x : Nat) (h : x < 16384) : x % 8192 + fl (decide (8192 ≤ x)) 8192 = x := by
  unfold fl
  by_cases h1 : 8192 ≤ x
  · rw [decide_eq_true h1, if_pos rfl]; omega
  · rw [decide_eq_false h1, if_neg (by decide)]; omega

theorem zlt32 : (0 : Nat) < 4294967296 := by omega
theorem pre_t (l : List UInt8) : preE true l = cE l ∧ preL true l = cL l ∧ preB true l = cB l := by
  unfold preE preL preB
  exact ⟨if_pos rfl, if_pos rfl, if_pos rfl⟩
theorem pre_f (l : List UInt8) : preE false l = aE l ∧ preL false l = aL l ∧ preB false l = aB l := by
  unfold preE preL preB
  exact ⟨if_neg (by decide), if_neg (by decide), if_neg (by decide)⟩
/-- A valid PDU is read again from its bytes. -/
theorem dec_enc_low {p : Low} {bl : List UInt8} (hc : chkL p bl.length = 0) (hb : p.blk < 4294967296) :
    ldE p.ctl (encL p bl) = 0 ∧ ldL p.ctl (encL p bl) = p ∧ ldB p.ctl (encL p bl) = bl ∧ 1 ≤ (encL p bl).length ∧ (encL p bl).length ≤ 16 := by
  have hi := low_is hc
  have key : (encL p bl).length ≠ 0 ∧ preE p.ctl (encL p bl) = 0 ∧ preL p.ctl (encL p bl) = p ∧ preB p.ctl (encL p bl) = bl ∧ (encL p bl).length ≤ 16 := by
    obtain ⟨hz, hl, hii, ho, hr, hn, hm⟩ := hi
    obtain ⟨ct, s, a, z, i, l, o, b, f⟩ := p
    simp only at hz hl hii ho hn hm hb
    obtain ⟨z, rfl⟩ := Int.eq_ofNat_of_zero_le hz.1
    obtain ⟨i, rfl⟩ := Int.eq_ofNat_of_zero_le hii.1
    obtain ⟨l, rfl⟩ := Int.eq_ofNat_of_zero_le hl.1
    unfold restP restB at hr
    rcases ct with _ | _
    · have hA : isA ⟨false, s, a, z, i, l, o, b, f⟩ = false := rfl
      rw [hA] at hr
      rcases s with _ | _
      · simp only [Bool.false_eq_true, if_false, Bool.and_eq_true, beq_iff_eq, Bool.not_eq_true'] at hr
        obtain ⟨⟨⟨⟨⟨rfl, hz0⟩, hi0⟩, hl0⟩, rfl⟩, rfl⟩ := hr
        obtain rfl : z = 0 := by omega
        obtain rfl : i = 0 := by omega
        obtain rfl : l = 0 := by omega
        have he : encL ⟨false, false, a, ((0 : Nat) : Int), ((0 : Nat) : Int), ((0 : Nat) : Int), 0, 0, false⟩ bl = UInt8.ofNat (fl a 64) :: bl := by
          unfold encL headN
          rw [show isA ⟨false, false, a, ((0 : Nat) : Int), ((0 : Nat) : Int), ((0 : Nat) : Int), 0, 0, false⟩ = false from rfl]
          simp [fieldB, le_1]
        have h64 : fl a 64 = 0 ∨ fl a 64 = 64 := by unfold fl; rcases a with _ | _ <;> simp
        have hb0 : b0 (UInt8.ofNat (fl a 64) :: bl) = fl a 64 := b0_cons _ _ (by omega)
        rw [he]
        refine ⟨by simp, ?_, ?_, ?_, by simp; omega⟩
        · refine (pre_f _).1.trans ?_
          unfold aE
          rw [hb0, if_neg (by omega), if_pos (by omega)]
        · refine (pre_f _).2.1.trans ?_
          unfold aL
          rw [hb0, if_pos (by omega)]
          congr 1
          unfold fl
          rcases a with _ | _ <;> simp
        · refine (pre_f _).2.2.trans ?_
          unfold aB
          rw [hb0, if_pos (by omega)]
          rfl
      · simp only [Bool.false_eq_true, if_false, if_true, Bool.and_eq_true, beq_iff_eq, Bool.not_eq_true'] at hr
        obtain ⟨⟨rfl, rfl⟩, rfl⟩ := hr
        obtain ⟨x, hx⟩ : ∃ x, x = z + i * 8192 + l * 262144 := ⟨_, rfl⟩
        have he : encL ⟨false, true, a, (z : Int), (i : Int), (l : Int), 0, 0, false⟩ bl = UInt8.ofNat (128 + fl a 64) :: (le 3 x ++ bl) := by
          unfold encL headN
          rw [show isA ⟨false, true, a, (z : Int), (i : Int), (l : Int), 0, 0, false⟩ = false from rfl]
          simp [fieldB, le_1, hx]
        have h64 : fl a 64 = 0 ∨ fl a 64 = 64 := by unfold fl; rcases a with _ | _ <;> simp
        have hb0 : b0 (UInt8.ofNat (128 + fl a 64) :: (le 3 x ++ bl)) = 128 + fl a 64 := b0_cons _ _ (by omega)
        have hxl : x < 8388608 := by omega
        have hv : leVal (((UInt8.ofNat (128 + fl a 64) :: (le 3 x ++ bl)).drop 1).take 3) = x := by
          rw [show (UInt8.ofNat (128 + fl a 64) :: (le 3 x ++ bl)).drop 1 = le 3 x ++ bl from rfl, drop_take _ (le_length 3 x), leVal_mod]
          omega
        have hll : (UInt8.ofNat (128 + fl a 64) :: (le 3 x ++ bl)).length = bl.length + 4 := by simp [le_length]; omega
        rw [he]
        have hn12 : bl.length ≤ 12 := by
          unfold chkL chkB at hc
          rcases Nat.lt_or_ge 12 bl.length with h | h
          · exfalso
            have hrr : restP ⟨false, true, a, (z : Int), (i : Int), (l : Int), 0, 0, false⟩ bl.length = true := rfl
            rw [hrr] at hc
            simp at hc
            omega
          · exact h
        refine ⟨by rw [hll]; omega, ?_, ?_, ?_, by rw [hll]; omega⟩
        · refine (pre_f _).1.trans ?_
          unfold aE
          rw [hb0, hv, hll, if_neg (by omega), if_neg (by omega), if_neg (by omega), if_neg (by omega)]
        · refine (pre_f _).2.1.trans ?_
          unfold aL
          rw [hb0, hv, if_neg (by omega)]
          have e1 : decide (128 + fl a 64 = 192) = a := by unfold fl; rcases a with _ | _ <;> simp
          rw [e1, show ((x : Nat) : Int) % 8192 = (z : Int) by omega, show ((x : Nat) : Int) / 8192 % 32 = (i : Int) by omega, show ((x : Nat) : Int) / 262144 = (l : Int) by omega]
        · refine (pre_f _).2.2.trans ?_
          unfold aB
          rw [hb0, if_neg (by omega)]
          exact drop_app bl (le_length 3 x)
    · by_cases ho0 : o = 0
      · subst ho0
        have hA : isA ⟨true, s, a, z, i, l, 0, b, f⟩ = true := rfl
        rw [hA] at hr
        simp only [if_true, Bool.and_eq_true, beq_iff_eq, Bool.not_eq_true'] at hr
        obtain ⟨⟨⟨⟨rfl, rfl⟩, hi0⟩, hl0⟩, hn0⟩ := hr
        obtain rfl : i = 0 := by omega
        obtain rfl : l = 0 := by omega
        obtain rfl : bl = [] := List.eq_nil_of_length_eq_zero (by omega)
        obtain ⟨x, hx⟩ : ∃ x, x = z + fl f 8192 := ⟨_, rfl⟩
        have hf : fl f 8192 = 0 ∨ fl f 8192 = 8192 := by unfold fl; rcases f with _ | _ <;> simp
        have he : encL ⟨true, false, false, (z : Int), ((0 : Nat) : Int), ((0 : Nat) : Int), 0, b, f⟩ [] = UInt8.ofNat 0 :: (le 2 x ++ le 4 b) := by
          unfold encL headN
          rw [hA]
          simp [fieldB, le_1, hx]
        have hb0 : b0 (UInt8.ofNat 0 :: (le 2 x ++ le 4 b)) = 0 := b0_cons _ _ (by omega)
        have hv : leVal (((UInt8.ofNat 0 :: (le 2 x ++ le 4 b)).drop 1).take 2) = x := by
          rw [show (UInt8.ofNat 0 :: (le 2 x ++ le 4 b)).drop 1 = le 2 x ++ le 4 b from rfl, drop_take _ (le_length 2 x), leVal_mod]
          omega
        have hv4 : leVal (((UInt8.ofNat 0 :: (le 2 x ++ le 4 b)).drop 3).take 4) = b := by
          rw [show (UInt8.ofNat 0 :: (le 2 x ++ le 4 b)).drop 3 = le 4 b from drop_app _ (le_length 2 x), List.take_of_length_le (by rw [le_length]; omega), leVal_mod]
          omega
        have hll : (UInt8.ofNat 0 :: (le 2 x ++ le 4 b)).length = 7 := by simp [le_length]
        rw [he]
        refine ⟨by rw [hll]; omega, ?_, ?_, ?_, by rw [hll]; omega⟩
        · refine (pre_t _).1.trans ?_
          unfold cE
          rw [hb0, hv, hll, if_neg (by omega), if_neg (by omega), if_neg (by omega), if_neg (by omega), if_neg (by omega)]
        · refine (pre_t _).2.1.trans ?_
          unfold cL
          rw [hb0, hv, hv4, if_neg (by omega)]
          have e1 : decide ((8192 : Int) ≤ ((x : Nat) : Int)) = f := by
            rw [hx]
            unfold fl
            rcases f with _ | _
            · simp; omega
            · simp; omega
          rw [e1, show ((x : Nat) : Int) % 8192 = (z : Int) by omega]
          rfl
        · refine (pre_t _).2.2.trans ?_
          unfold cB
          rw [hb0, if_neg (by omega)]
      · have ho' := ho rfl
        obtain ⟨o, rfl⟩ := Int.eq_ofNat_of_zero_le ho'.1
        have hA : isA ⟨true, s, a, z, i, l, (o : Int), b, f⟩ = false := by unfold isA; simp; omega
        rw [hA] at hr
        simp only [Bool.false_eq_true, if_false, if_true, Bool.and_eq_true, beq_iff_eq, Bool.not_eq_true'] at hr
        obtain ⟨⟨⟨⟨⟨⟨rfl, rfl⟩, hz0⟩, hi0⟩, hl0⟩, rfl⟩, rfl⟩ := hr
        obtain rfl : z = 0 := by omega
        obtain rfl : i = 0 := by omega
        obtain rfl : l = 0 := by omega
        have he : encL ⟨true, false, false, ((0 : Nat) : Int), ((0 : Nat) : Int), ((0 : Nat) : Int), (o : Int), 0, false⟩ bl = UInt8.ofNat o :: bl := by
          unfold encL headN
          rw [hA]
          simp [fieldB, le_1]
        have hb0 : b0 (UInt8.ofNat o :: bl) = o := b0_cons _ _ (by omega)
        rw [he]
        refine ⟨by simp, ?_, ?_, ?_, by simp; omega⟩
        · refine (pre_t _).1.trans ?_
          unfold cE
          rw [hb0, if_neg (by omega), if_pos (by omega)]
        · refine (pre_t _).2.1.trans ?_
          unfold cL
          rw [hb0, if_pos (by omega)]
          rfl
        · refine (pre_t _).2.2.trans ?_
          unfold cB
          rw [hb0, if_pos (by omega)]
          rfl
  obtain ⟨h0, h1, h2, h3, h4⟩ := key
  have hE : ldE p.ctl (encL p bl) = 0 := by
    unfold ldE
    rw [if_neg h0, if_neg (by rw [h1]; decide), h2, h3]
    exact hc
  refine ⟨hE, ?_, ?_, by omega, h4⟩
  · unfold ldL; rw [if_pos hE]; exact h2
  · unfold ldB; rw [if_pos hE]; exact h3

theorem cons_b0 {l : List UInt8} (h : 0 < l.length) : UInt8.ofNat (b0 l) :: l.drop 1 = l := by
  match l, h with
  | x :: r, _ =>
    show UInt8.ofNat x.toNat :: r = _
    rw [byte_back]
/-- Bytes that are accepted are those of the PDU. -/
theorem enc_dec_low {ct : Bool} {l : List UInt8} (h : ldE ct l = 0) :
    chkL (ldL ct l) (ldB ct l).length = 0 ∧ encL (ldL ct l) (ldB ct l) = l ∧ (ldL ct l).ctl = ct ∧ (ldL ct l).blk < 4294967296 := by
  have hL : ldL ct l = preL ct l := by unfold ldL; rw [if_pos h]
  have hB : ldB ct l = preB ct l := by unfold ldB; rw [if_pos h]
  rw [hL, hB]
  unfold ldE at h
  by_cases h0 : l.length = 0
  · rw [if_pos h0] at h; exact absurd h (by decide)
  rw [if_neg h0] at h
  by_cases h1 : preE ct l ≠ 0
  · rw [if_pos h1] at h; exact absurd h h1
  rw [if_neg h1] at h
  have h1 : preE ct l = 0 := by omega
  refine ⟨h, ?_⟩
  clear hL hB h
  have h255 := b0_lt l
  have hcons := cons_b0 (l := l) (by omega)
  rcases ct with _ | _
  · rw [(pre_f l).1] at h1
    rw [(pre_f l).2.1, (pre_f l).2.2]
    unfold aE at h1
    by_cases h64 : b0 l % 64 ≠ 0
    · rw [if_pos h64] at h1; exact absurd h1 (by decide)
    rw [if_neg h64] at h1
    unfold aL aB
    by_cases h128 : b0 l < 128
    · rw [if_pos h128, if_pos h128]
      refine ⟨?_, rfl, zlt32⟩
      have e1 : fl (decide (b0 l = 64)) 64 = b0 l := by
        unfold fl
        by_cases h : b0 l = 64
        · rw [decide_eq_true h, if_pos rfl, h]
        · rw [decide_eq_false h, if_neg (by decide)]; omega
      unfold encL headN
      rw [show isA ⟨false, false, decide (b0 l = 64), 0, 0, 0, 0, 0, false⟩ = false from rfl]
      simp only [Bool.false_eq_true, if_false, fieldB, List.flatMap_cons, List.flatMap_nil, List.append_nil]
      rw [e1, show ((1 : Int)).toNat = 1 from rfl, le_1]
      exact hcons
    · rw [if_neg h128] at h1
      rw [if_neg h128, if_neg h128]
      by_cases h4 : l.length < 4
      · rw [if_pos h4] at h1; exact absurd h1 (by decide)
      rw [if_neg h4] at h1
      obtain ⟨x, hx⟩ : ∃ x, x = leVal ((l.drop 1).take 3) := ⟨_, rfl⟩
      rw [← hx] at h1 ⊢
      by_cases hb : 8388608 ≤ x
      · rw [if_pos hb] at h1; exact absurd h1 (by decide)
      refine ⟨?_, rfl, zlt32⟩
      have e1 : 128 + fl (decide (b0 l = 192)) 64 = b0 l := by
        unfold fl
        by_cases h : b0 l = 192
        · rw [decide_eq_true h, if_pos rfl, h]
        · rw [decide_eq_false h, if_neg (by decide)]; omega
      have e2 : ((x : Int) % 8192).toNat + ((x : Int) / 8192 % 32).toNat * 8192 + ((x : Int) / 262144).toNat * 262144 = x := by omega
      unfold encL headN
      rw [show isA ⟨false, true, decide (b0 l = 192), (x : Int) % 8192, (x : Int) / 8192 % 32, (x : Int) / 262144, 0, 0, false⟩ = false from rfl]
      simp only [Bool.false_eq_true, if_false, if_true, fieldB, List.flatMap_cons, List.flatMap_nil, List.append_nil]
      rw [e1, e2, show ((1 : Int)).toNat = 1 from rfl, show ((3 : Int)).toNat = 3 from rfl, le_1, hx, le_leVal _ 3 (by rw [List.length_take, List.length_drop]; omega)]
      rw [List.append_assoc, show l.drop 4 = (l.drop 1).drop 3 by rw [List.drop_drop], List.take_append_drop]
      exact hcons
  · rw [(pre_t l).1] at h1
    rw [(pre_t l).2.1, (pre_t l).2.2]
    unfold cE at h1
    by_cases h8 : 8 < b0 l
    · rw [if_pos h8] at h1; exact absurd h1 (by decide)
    rw [if_neg h8] at h1
    unfold cL cB
    by_cases hb : b0 l ≠ 0
    · rw [if_pos hb, if_pos hb]
      refine ⟨?_, rfl, zlt32⟩
      unfold encL headN
      rw [show isA ⟨true, false, false, 0, 0, 0, (b0 l : Int), 0, false⟩ = false by unfold isA; simp; omega]
      simp only [Bool.false_eq_true, if_false, if_true, fieldB, List.flatMap_cons, List.flatMap_nil, List.append_nil, Int.toNat_natCast]
      rw [show ((1 : Int)).toNat = 1 from rfl, le_1]
      exact hcons
    · rw [if_neg hb] at h1
      rw [if_neg hb, if_neg hb]
      by_cases h7 : l.length < 7
      · rw [if_pos h7] at h1; exact absurd h1 (by decide)
      rw [if_neg h7] at h1
      by_cases h7' : 7 < l.length
      · rw [if_pos h7'] at h1; exact absurd h1 (by decide)
      rw [if_neg h7'] at h1
      obtain ⟨x, hx⟩ : ∃ x, x = leVal ((l.drop 1).take 2) := ⟨_, rfl⟩
      rw [← hx] at h1 ⊢
      by_cases hbig : 16384 ≤ x
      · rw [if_pos hbig] at h1; exact absurd h1 (by decide)
      refine ⟨?_, rfl, ?_⟩
      · have e1 : (UInt8.ofNat 0 : UInt8) = UInt8.ofNat (b0 l) := by rw [show b0 l = 0 by omega]
        have e2 : ((x : Int) % 8192).toNat + fl (decide ((8192 : Int) ≤ (x : Int))) 8192 = x := by
          have := fl_8192 x (by omega)
          rw [show decide ((8192 : Int) ≤ (x : Int)) = decide (8192 ≤ x) by rw [decide_eq_decide]; omega]
          omega
        unfold encL headN
        rw [show isA ⟨true, false, false, (x : Int) % 8192, 0, 0, 0, leVal ((l.drop 3).take 4), decide ((8192 : Int) ≤ (x : Int))⟩ = true from rfl]
        simp only [if_true, fieldB, List.flatMap_cons, List.flatMap_nil, List.append_nil]
        rw [e2, show ((1 : Int)).toNat = 1 from rfl, show ((2 : Int)).toNat = 2 from rfl, show ((4 : Int)).toNat = 4 from rfl, le_1, e1, hx, le_leVal _ 2 (by rw [List.length_take, List.length_drop]; omega), le_leVal _ 4 (by rw [List.length_take, List.length_drop]; omega)]
        rw [show (l.drop 3).take 4 = (l.drop 1).drop 2 by rw [List.drop_drop, List.take_of_length_le (by rw [List.length_drop]; omega)], List.take_append_drop]
        exact hcons
      · have := leVal_bound ((l.drop 3).take 4) 4 (by rw [List.length_take]; omega)
        exact this
end Go.Proofs.Ytkpjinkkjbljkaa
