/- The plain mathematics of security PDUs: their bytes, and the PDU of bytes. No condition. -/
import Derived.Test.YtpomobeogkfmfaaDoorSec4
import Derived.Test.YtpomobeogkfmfaaDoorAdr17
namespace Go.Proofs.YtpomobeogkfmfaaDoor

theorem leVal_mod (n x : Nat) : leVal (le n x) = x % 2 ^ (8 * n) := by
  induction n with
  | zero => simp [le, leVal, Nat.mod_one]
  | succ n ih =>
    rw [le_succ, leVal_snoc, ih, le_length, UInt8.toNat_ofNat', show 8 * (n + 1) = 8 * n + 8 by omega, Nat.pow_add, Nat.mod_mul, Nat.mul_comm (2 ^ (8 * n))]
theorem leVal_same : ∀ (l k : List UInt8), l.length = k.length → leVal l = leVal k → l = k
  | [], [], _, _ => rfl
  | a :: l, b :: k, hl, hv => by
    have h1 := a.toNat_lt
    have h2 := b.toNat_lt
    simp only [leVal] at hv
    have e1 : a = b := UInt8.toNat_inj.1 (by omega)
    have e2 := leVal_same l k (by simpa using hl) (by omega)
    rw [e1, e2]
  | [], _ :: _, hl, _ => by cases hl
  | _ :: _, [], hl, _ => by cases hl
/-- A piece out of bytes: 'b[k:m]'. -/
theorem bs_piece {w : World} {B n c b off : Nat} {l : List UInt8} (h : BS w B (.slice (some ⟨b, off, none⟩) n c) l) {k m : Nat} (hk : k ≤ m) (hm : m ≤ l.length) (hc : k < c) :
    BS w B (.slice (some ⟨b, off + k, none⟩) (m - k) (c - k)) ((l.drop k).take (m - k)) := by
  obtain ⟨A', c', e, h1, h2, h3, h4⟩ := h
  injection e with e1 e2 e3
  subst e1 e2 e3
  have hl : ((l.drop k).take (m - k)).length = m - k := by rw [List.length_take, List.length_drop]; omega
  refine ⟨_, c - k, by rw [hl], by rw [hl]; omega, by omega, by rw [bys_length]; omega, ?_⟩
  rcases h4 with h4 | ⟨b', off', e, hb, hcell⟩
  · left
    have : l = [] := by simpa [bys] using h4
    subst this
    simp [bys]
  · right
    injection e with e
    injection e with e1 e2
    subst e1 e2
    refine ⟨b, off + k, rfl, hb, fun j u hu => ?_⟩
    rw [Nat.add_assoc]
    apply hcell
    rw [bys_take, bys_drop] at hu
    by_cases hj : j < m - k
    · rw [List.getElem?_take_of_lt hj, List.getElem?_drop] at hu
      exact hu
    · rw [List.getElem?_eq_none (by simp; omega)] at hu
      cases hu

/-- The flags of features. -/
def flagN (o b m s t : Bool) : Nat := (if o then 1 else 0) + (if b then 2 else 0) + (if m then 4 else 0) + (if s then 8 else 0) + (if t then 16 else 0)
theorem flagN_lt (o b m s t : Bool) : flagN o b m s t ≤ 31 := by cases o <;> cases b <;> cases m <;> cases s <;> cases t <;> decide
/-- The sizes of the numbers that follow a kind. -/
def sizK (k : Int) : List Int := if k = 1 ∨ k = 2 then [1, 1] else if k = 11 ∨ k = 5 then [1] else if k = 12 then [4] else if k = 8 then [8, 1, 6] else [8]
/-- The numbers that follow the kind of a PDU. -/
def numS (p : Sec) : List Nat :=
  if p.kind = 1 ∨ p.kind = 2 then [p.io.toNat, flagN p.oob p.bond p.mitm p.send p.take] else if p.kind = 11 then [flagN p.oob p.bond p.mitm p.send p.take] else if p.kind = 5 then [p.rsn.toNat] else if p.kind = 12 then [p.pub]
  else if p.kind = 8 then [p.irk, p.ak.toNat, p.ax] else [p.val]
def fldS (p : Sec) : List (Int × Nat) := (1, p.kind.toNat) :: (sizK p.kind).zip (numS p)
/-- The bytes of a PDU. -/
def bodS (p : Sec) : List UInt8 :=
  if p.kind = 1 ∨ p.kind = 2 then [UInt8.ofNat p.io.toNat, UInt8.ofNat (flagN p.oob p.bond p.mitm p.send p.take)] else if p.kind = 11 then [UInt8.ofNat (flagN p.oob p.bond p.mitm p.send p.take)] else if p.kind = 5 then [UInt8.ofNat p.rsn.toNat]
  else if p.kind = 12 then le 4 p.pub else if p.kind = 8 then le 8 p.irk ++ encA p.ak p.ax else le 8 p.val
def encS (p : Sec) : List UInt8 := UInt8.ofNat p.kind.toNat :: bodS p

/-- The numbers of a PDU are in their types' ranges. -/
structure SecOk (p : Sec) : Prop where
  pub : p.pub < 4294967296
  val : p.val < 18446744073709551616
  ax : p.ax < 18446744073709551616
  irk : p.irk < 18446744073709551616

theorem le_one (n : Nat) : le 1 n = [UInt8.ofNat n] := by simp [le]
theorem chkS_ok {p : Sec} (h : chkS p = 0) : hasK p.kind = true ∧ usedS p = p ∧ ((p.kind = 1 ∨ p.kind = 2) → 0 ≤ p.io ∧ p.io ≤ 4) ∧ (p.kind = 8 → chkA p.ak p.ax = 0 ∧ (p.ak = 1 ∨ p.ak = 2)) ∧ (p.kind = 5 → 1 ≤ p.rsn ∧ p.rsn ≤ 255) := by
  unfold chkS at h
  by_cases h1 : hasK p.kind = false
  · rw [if_pos h1] at h; cases h
  · rw [if_neg h1] at h
    by_cases h2 : usedS p ≠ p
    · rw [if_pos h2] at h; cases h
    · rw [if_neg h2] at h
      refine ⟨by simpa using h1, Decidable.not_not.1 h2, fun hk => ?_, fun hk => ?_, fun hk => ?_⟩
      · rw [if_pos hk] at h
        unfold chkF at h
        by_cases h3 : 0 ≤ p.io ∧ p.io ≤ 4
        · exact h3
        · rw [if_neg h3] at h; cases h
      · rw [if_neg (by omega), if_pos hk] at h
        unfold chkI at h
        by_cases h3 : chkA p.ak p.ax ≠ 0
        · rw [if_pos h3] at h; exact absurd h h3
        · rw [if_neg h3] at h
          by_cases h4 : p.ak ≠ 1 ∧ p.ak ≠ 2
          · rw [if_pos h4] at h; cases h
          · exact ⟨Decidable.not_not.1 h3, by omega⟩
      · rw [if_neg (by omega), if_neg (by omega), if_pos hk] at h
        unfold chkR at h
        by_cases h3 : p.rsn < 1 ∨ 255 < p.rsn
        · rw [if_pos h3] at h; cases h
        · omega

theorem put_one {s : Int} {x : Nat} {ys : List UInt8} (h1 : 1 ≤ s) (h2 : s ≤ 8) (hx : x < 2 ^ (8 * s.toNat)) : putStep (some ys) (s, x) = some (ys ++ le s.toNat x) := by
  have f : fok (s, x) = true := by unfold fok; rw [decide_eq_true]; exact ⟨h1, h2, hx⟩
  simp [putStep, f]
theorem put_sec {p : Sec} (h : chkS p = 0) (hr : SecOk p) : putS (fldS p) = some (encS p) := by
  obtain ⟨hh, _, hf, hi, hs⟩ := chkS_ok h
  obtain ⟨k, io, o, b, m, s, t, pu, va, ak, ax, ir, rs⟩ := p
  obtain ⟨r1, r2, r3, r4⟩ := hr
  have hfl := flagN_lt o b m s t
  have hk := hasK_yes hh
  simp only at hk hf hi hs r1 r2 r3 r4
  clear h hh
  rcases hk with hk | hk | hk | hk | hk | hk | hk | hk | hk
  all_goals subst hk
  · obtain ⟨h0, h4⟩ := hf (by omega)
    show putStep (putStep (putStep (some []) (1, 1)) (1, io.toNat)) (1, flagN o b m s t) = _
    rw [put_one (by omega) (by omega) (by decide), put_one (by omega) (by omega) (by show _ < 256; omega), put_one (by omega) (by omega) (by show _ < 256; omega)]
    simp [encS, bodS, le_one]
  · obtain ⟨h0, h4⟩ := hf (by omega)
    show putStep (putStep (putStep (some []) (1, 2)) (1, io.toNat)) (1, flagN o b m s t) = _
    rw [put_one (by omega) (by omega) (by decide), put_one (by omega) (by omega) (by show _ < 256; omega), put_one (by omega) (by omega) (by show _ < 256; omega)]
    simp [encS, bodS, le_one]
  · show putStep (putStep (some []) (1, 3)) (8, va) = _
    rw [put_one (by omega) (by omega) (by decide), put_one (by omega) (by omega) (by show _ < 18446744073709551616; omega)]
    simp [encS, bodS, le_one]
  · show putStep (putStep (some []) (1, 4)) (8, va) = _
    rw [put_one (by omega) (by omega) (by decide), put_one (by omega) (by omega) (by show _ < 18446744073709551616; omega)]
    simp [encS, bodS, le_one]
  · obtain ⟨h0, h4⟩ := hs rfl
    show putStep (putStep (some []) (1, 5)) (1, rs.toNat) = _
    rw [put_one (by omega) (by omega) (by decide), put_one (by omega) (by omega) (by show _ < 256; omega)]
    simp [encS, bodS, le_one]
  · obtain ⟨hc, _⟩ := hi rfl
    obtain ⟨h1, h4, hx⟩ := chk_ok hc
    show putStep (putStep (putStep (putStep (some []) (1, 8)) (8, ir)) (1, ak.toNat)) (6, ax) = _
    rw [put_one (by omega) (by omega) (by decide), put_one (by omega) (by omega) (by show _ < 18446744073709551616; omega), put_one (by omega) (by omega) (by show _ < 256; omega), put_one (by omega) (by omega) (by show _ < 281474976710656; omega)]
    simp [encS, bodS, le_one, encA]
  · show putStep (putStep (some []) (1, 11)) (1, flagN o b m s t) = _
    rw [put_one (by omega) (by omega) (by decide), put_one (by omega) (by omega) (by show _ < 256; omega)]
    simp [encS, bodS, le_one]
  · show putStep (putStep (some []) (1, 12)) (4, pu) = _
    rw [put_one (by omega) (by omega) (by decide), put_one (by omega) (by omega) (by show _ < 4294967296; omega)]
    simp [encS, bodS, le_one]
  · show putStep (putStep (some []) (1, 13)) (8, va) = _
    rw [put_one (by omega) (by omega) (by decide), put_one (by omega) (by omega) (by show _ < 18446744073709551616; omega)]
    simp [encS, bodS, le_one]
theorem encS_length {p : Sec} (h : hasK p.kind = true) : ((encS p).length : Int) = lenK p.kind := by
  obtain ⟨k, io, o, b, m, s, t, pu, va, ak, ax, ir, rs⟩ := p
  have hk := hasK_yes h
  simp only at hk
  rcases hk with hk | hk | hk | hk | hk | hk | hk | hk | hk
  all_goals
    subst hk
    simp [encS, bodS, lenK, le_length, encA_length]

/-! ### The PDU of bytes -/
def bitN (n i : Nat) : Bool := decide (n / 2 ^ i % 2 = 1)
/-- The byte number i. -/
def nB (l : List UInt8) (i : Nat) : Nat := (l.getD i 0).toNat
/-- The PDU of the bytes that follow a kind. -/
def decP (k : Int) (l : List UInt8) : Sec :=
  if k = 1 ∨ k = 2 then ⟨k, (nB l 0 : Int), bitN (nB l 1) 0, bitN (nB l 1) 1, bitN (nB l 1) 2, bitN (nB l 1) 3, bitN (nB l 1) 4, 0, 0, 0, 0, 0, 0⟩
  else if k = 11 then ⟨k, 0, false, bitN (nB l 0) 1, bitN (nB l 0) 2, false, false, 0, 0, 0, 0, 0, 0⟩
  else if k = 12 then ⟨k, 0, false, false, false, false, false, leVal l, 0, 0, 0, 0, 0⟩
  else if k = 8 then ⟨k, 0, false, false, false, false, false, 0, 0, (nB l 8 : Int), leVal (l.drop 9), leVal (l.take 8), 0⟩
  else if k = 5 then ⟨k, 0, false, false, false, false, false, 0, 0, 0, 0, 0, (nB l 0 : Int)⟩
  else ⟨k, 0, false, false, false, false, false, 0, leVal l, 0, 0, 0, 0⟩
/-- Are there flags that the kind does not have? -/
def badF (k : Int) (l : List UInt8) : Bool := if k = 1 ∨ k = 2 then decide (31 < nB l 1) else if k = 11 then decide (6 < nB l 0 ∨ nB l 0 % 2 = 1) else false
/-- The error of bytes. -/
def decSE (l : List UInt8) : Int :=
  if l.length = 0 then 3 else if hasK (nB l 0 : Int) = false then 12 else if (l.length : Int) < lenK (nB l 0 : Int) then 3 else if lenK (nB l 0 : Int) < (l.length : Int) then 2 else if badF (nB l 0 : Int) (l.drop 1) = true then 2
  else chkS (decP (nB l 0 : Int) (l.drop 1))
def decS (l : List UInt8) : Sec := if decSE l = 0 then decP (nB l 0 : Int) (l.drop 1) else sec0

theorem decSE_ok {l : List UInt8} (h : decSE l = 0) : 0 < l.length ∧ hasK (nB l 0 : Int) = true ∧ (l.length : Int) = lenK (nB l 0 : Int) ∧ badF (nB l 0 : Int) (l.drop 1) = false ∧ chkS (decP (nB l 0 : Int) (l.drop 1)) = 0 := by
  unfold decSE at h
  by_cases h1 : l.length = 0
  · rw [if_pos h1] at h; cases h
  rw [if_neg h1] at h
  by_cases h2 : hasK (nB l 0 : Int) = false
  · rw [if_pos h2] at h; cases h
  rw [if_neg h2] at h
  by_cases h3 : (l.length : Int) < lenK (nB l 0 : Int)
  · rw [if_pos h3] at h; cases h
  rw [if_neg h3] at h
  by_cases h4 : lenK (nB l 0 : Int) < (l.length : Int)
  · rw [if_pos h4] at h; cases h
  rw [if_neg h4] at h
  by_cases h5 : badF (nB l 0 : Int) (l.drop 1) = true
  · rw [if_pos h5] at h; cases h
  rw [if_neg h5] at h
  exact ⟨by omega, by simpa using h2, by omega, by simpa using h5, h⟩

theorem nB_byte (x : Nat) (r : List UInt8) (h : x < 256) : nB (UInt8.ofNat x :: r) 0 = x := by
  show (UInt8.ofNat x).toNat = x
  rw [UInt8.toNat_ofNat']
  omega
theorem flag_bits : ∀ o b m s t : Bool, flagN o b m s t < 256 ∧ bitN (flagN o b m s t) 0 = o ∧ bitN (flagN o b m s t) 1 = b ∧ bitN (flagN o b m s t) 2 = m ∧ bitN (flagN o b m s t) 3 = s ∧ bitN (flagN o b m s t) 4 = t := by decide
theorem flag_back : ∀ n : Fin 32, flagN (bitN n 0) (bitN n 1) (bitN n 2) (bitN n 3) (bitN n 4) = n := by decide +kernel
theorem flag_back6 : ∀ n : Fin 7, n.val % 2 = 0 → flagN false (bitN n 1) (bitN n 2) false false = n := by decide +kernel
theorem flag_low (b m : Bool) : flagN false b m false false ≤ 6 ∧ flagN false b m false false % 2 = 0 := by cases b <;> cases m <;> decide
theorem byte_back (x : UInt8) : UInt8.ofNat x.toNat = x := UInt8.toNat_inj.1 (by rw [UInt8.toNat_ofNat']; have := x.toNat_lt; omega)
theorem le_leVal (l : List UInt8) (n : Nat) (h : l.length = n) : le n (leVal l) = l := by
  refine leVal_same _ _ (by rw [le_length, h]) ?_
  rw [leVal_mod]
  have h1 := leVal_lt l
  rw [h] at h1
  exact Nat.mod_eq_of_lt h1

theorem dec_parts {p : Sec} (h : chkS p = 0) (hr : SecOk p) : decP p.kind (bodS p) = p ∧ badF p.kind (bodS p) = false := by
  obtain ⟨hh, hu, hf, hi, hs⟩ := chkS_ok h
  obtain ⟨k, io, o, b, m, s, t, pu, va, ak, ax, ir, rs⟩ := p
  obtain ⟨r1, r2, r3, r4⟩ := hr
  have hk := hasK_yes hh
  simp only at hk hf hi hs r1 r2 r3 r4
  clear h hh
  rcases hk with hk | hk | hk | hk | hk | hk | hk | hk | hk
  all_goals subst hk
  · obtain ⟨h0, h4⟩ := hf (by omega)
    obtain ⟨f1, f2, f3, f4, f5, f6⟩ := flag_bits o b m s t
    have fl := flagN_lt o b m s t
    simp [usedS] at hu
    obtain ⟨rfl, rfl, rfl, rfl, rfl, rfl⟩ := hu
    have e0 : nB (bodS ⟨1, io, o, b, m, s, t, 0, 0, 0, 0, 0, 0⟩) 0 = io.toNat := nB_byte io.toNat _ (by omega)
    have e1 : nB (bodS ⟨1, io, o, b, m, s, t, 0, 0, 0, 0, 0, 0⟩) 1 = flagN o b m s t := nB_byte _ [] (by omega)
    simp only [decP, badF, e0, e1, f2, f3, f4, f5, f6]
    simp
    omega
  · obtain ⟨h0, h4⟩ := hf (by omega)
    obtain ⟨f1, f2, f3, f4, f5, f6⟩ := flag_bits o b m s t
    have fl := flagN_lt o b m s t
    simp [usedS] at hu
    obtain ⟨rfl, rfl, rfl, rfl, rfl, rfl⟩ := hu
    have e0 : nB (bodS ⟨2, io, o, b, m, s, t, 0, 0, 0, 0, 0, 0⟩) 0 = io.toNat := nB_byte io.toNat _ (by omega)
    have e1 : nB (bodS ⟨2, io, o, b, m, s, t, 0, 0, 0, 0, 0, 0⟩) 1 = flagN o b m s t := nB_byte _ [] (by omega)
    simp only [decP, badF, e0, e1, f2, f3, f4, f5, f6]
    simp
    omega
  · simp [usedS] at hu
    obtain ⟨rfl, rfl, rfl, rfl, rfl, rfl, rfl, rfl, rfl, rfl, rfl⟩ := hu
    simp [decP, badF, bodS, leVal_mod]
    omega
  · simp [usedS] at hu
    obtain ⟨rfl, rfl, rfl, rfl, rfl, rfl, rfl, rfl, rfl, rfl, rfl⟩ := hu
    simp [decP, badF, bodS, leVal_mod]
    omega
  · obtain ⟨h0, h4⟩ := hs rfl
    simp [usedS] at hu
    obtain ⟨rfl, rfl, rfl, rfl, rfl, rfl, rfl, rfl, rfl, rfl, rfl⟩ := hu
    have e0 : nB [UInt8.ofNat rs.toNat] 0 = rs.toNat := nB_byte _ _ (by omega)
    simp [decP, badF, bodS, e0]
    omega
  · obtain ⟨hc, _⟩ := hi rfl
    obtain ⟨h1, h4, hx⟩ := chk_ok hc
    simp [usedS] at hu
    obtain ⟨rfl, rfl, rfl, rfl, rfl, rfl, rfl, rfl, rfl⟩ := hu
    have e8 : (le 8 ir).length = 8 := le_length _ _
    have e9 : nB (le 8 ir ++ encA ak ax) 8 = ak.toNat := by
      unfold nB
      rw [List.getD_eq_getElem?_getD, List.getElem?_append_right (by omega), e8]
      exact nB_byte _ _ (by omega)
    have e10 : (le 8 ir ++ encA ak ax).drop 9 = le 6 ax := by
      rw [List.drop_append, List.drop_eq_nil_of_le (by omega), e8]
      rfl
    have e11 : (le 8 ir ++ encA ak ax).take 8 = le 8 ir := by
      rw [List.take_append_of_le_length (by omega), List.take_of_length_le (by omega)]
    simp [decP, badF, bodS, e9, e10, e11, leVal_mod]
    omega
  · simp [usedS] at hu
    obtain ⟨rfl, rfl, rfl, rfl, rfl, rfl, rfl, rfl, rfl, rfl⟩ := hu
    obtain ⟨f1, f2, f3, f4, f5, f6⟩ := flag_bits false b m false false
    have fl := flag_low b m
    have e0 : nB [UInt8.ofNat (flagN false b m false false)] 0 = flagN false b m false false := nB_byte _ _ (by omega)
    simp [decP, badF, bodS, e0, f3, f4]
    omega
  · simp [usedS] at hu
    obtain ⟨rfl, rfl, rfl, rfl, rfl, rfl, rfl, rfl, rfl, rfl, rfl⟩ := hu
    simp [decP, badF, bodS, leVal_mod]
    omega
  · simp [usedS] at hu
    obtain ⟨rfl, rfl, rfl, rfl, rfl, rfl, rfl, rfl, rfl, rfl, rfl⟩ := hu
    simp [decP, badF, bodS, leVal_mod]
    omega
theorem kind_byte {p : Sec} (h : hasK p.kind = true) : (nB (encS p) 0 : Int) = p.kind := by
  have hk := hasK_yes h
  have e : nB (encS p) 0 = p.kind.toNat := nB_byte _ _ (by omega)
  rw [e]
  omega
/-- A valid PDU comes back out of its bytes. -/
theorem dec_enc_sec {p : Sec} (h : chkS p = 0) (hr : SecOk p) : decSE (encS p) = 0 ∧ decS (encS p) = p := by
  obtain ⟨h1, h2⟩ := dec_parts h hr
  have hh := (chkS_ok h).1
  have hl := encS_length hh
  have hk := kind_byte hh
  have e : decSE (encS p) = 0 := by
    unfold decSE
    rw [if_neg (by simp [encS]), hk, if_neg (by simp [hh]), if_neg (by omega), if_neg (by omega)]
    show (if badF p.kind (bodS p) = true then 2 else chkS (decP p.kind (bodS p))) = 0
    rw [h2, if_neg (by decide), h1, h]
  refine ⟨e, ?_⟩
  unfold decS
  rw [if_pos e, hk]
  exact h1

theorem decP_kind (k : Int) (l : List UInt8) : (decP k l).kind = k := by unfold decP; split <;> (try split) <;> (try split) <;> (try split) <;> (try split) <;> rfl
theorem leVal_bound (l : List UInt8) (n : Nat) (h : l.length ≤ n) : leVal l < 2 ^ (8 * n) :=
  Nat.lt_of_lt_of_le (leVal_lt l) (Nat.pow_le_pow_right (by omega) (by omega))
theorem len_of {r : List UInt8} {k : Int} {n : Nat} (h : ((r.length + 1 : Nat) : Int) = lenK k) (e : lenK k = (n : Int) + 1) : r.length = n := by omega
theorem z32 : (0 : Nat) < 4294967296 := by omega
theorem z64 : (0 : Nat) < 18446744073709551616 := by omega
/-- Bytes that are accepted are those of the PDU; its numbers are in range. -/
theorem enc_dec_sec {l : List UInt8} (h : decSE l = 0) : encS (decS l) = l ∧ SecOk (decS l) := by
  obtain ⟨h1, h2, h3, h4, h5⟩ := decSE_ok h
  have e : decS l = decP (nB l 0 : Int) (l.drop 1) := by unfold decS; rw [if_pos h]
  match l, h1 with
  | a :: r, _ =>
    rw [e]
    show encS (decP (a.toNat : Int) r) = a :: r ∧ SecOk (decP (a.toNat : Int) r)
    have h3' : ((r.length + 1 : Nat) : Int) = lenK (a.toNat : Int) := h3
    have h4' : badF (a.toNat : Int) r = false := h4
    have h5' : chkS (decP (a.toNat : Int) r) = 0 := h5
    have hk := hasK_yes (show hasK (a.toNat : Int) = true from h2)
    have hE : ∀ q : Sec, encS q = UInt8.ofNat q.kind.toNat :: bodS q := fun _ => rfl
    have ha : UInt8.ofNat (a.toNat : Int).toNat = a := by rw [Int.toNat_natCast]; exact byte_back a
    rw [hE, decP_kind, ha]
    have hck := chkS_ok h5'
    clear h h1 h2 h3 h4 h5 e hE ha h5'
    generalize (a.toNat : Int) = k at *
    suffices hs : bodS (decP k r) = r ∧ SecOk (decP k r) from ⟨by rw [hs.1], hs.2⟩
    rcases hk with hk | hk | hk | hk | hk | hk | hk | hk | hk
    all_goals subst hk
    · have hl : r.length = 2 := len_of h3' rfl
      match r, hl with
      | [x, y], _ =>
        have hb : ¬ 31 < y.toNat := by simpa [badF, nB] using h4'
        have hf := flag_back ⟨y.toNat, by omega⟩
        refine ⟨?_, ⟨z32, z64, z64, z64⟩⟩
        show [UInt8.ofNat (x.toNat : Int).toNat, UInt8.ofNat (flagN (bitN y.toNat 0) (bitN y.toNat 1) (bitN y.toNat 2) (bitN y.toNat 3) (bitN y.toNat 4))] = [x, y]
        rw [hf, Int.toNat_natCast, byte_back, byte_back]
    · have hl : r.length = 2 := len_of h3' rfl
      match r, hl with
      | [x, y], _ =>
        have hb : ¬ 31 < y.toNat := by simpa [badF, nB] using h4'
        have hf := flag_back ⟨y.toNat, by omega⟩
        refine ⟨?_, ⟨z32, z64, z64, z64⟩⟩
        show [UInt8.ofNat (x.toNat : Int).toNat, UInt8.ofNat (flagN (bitN y.toNat 0) (bitN y.toNat 1) (bitN y.toNat 2) (bitN y.toNat 3) (bitN y.toNat 4))] = [x, y]
        rw [hf, Int.toNat_natCast, byte_back, byte_back]
    · have hl : r.length = 8 := len_of h3' rfl
      exact ⟨le_leVal r 8 hl, ⟨z32, leVal_bound r 8 (by omega), z64, z64⟩⟩
    · have hl : r.length = 8 := len_of h3' rfl
      exact ⟨le_leVal r 8 hl, ⟨z32, leVal_bound r 8 (by omega), z64, z64⟩⟩
    · have hl : r.length = 1 := len_of h3' rfl
      match r, hl with
      | [x], _ =>
        refine ⟨?_, ⟨z32, z64, z64, z64⟩⟩
        show [UInt8.ofNat (x.toNat : Int).toNat] = [x]
        rw [Int.toNat_natCast, byte_back]
    · have hl : r.length = 15 := len_of h3' rfl
      refine ⟨?_, ⟨z32, z64, leVal_bound (r.drop 9) 8 (by rw [List.length_drop]; omega), leVal_bound (r.take 8) 8 (by rw [List.length_take]; omega)⟩⟩
      show le 8 (leVal (r.take 8)) ++ (UInt8.ofNat ((nB r 8 : Nat) : Int).toNat :: le 6 (leVal (r.drop 9))) = r
      rw [le_leVal _ 8 (by rw [List.length_take]; omega), le_leVal _ 6 (by rw [List.length_drop]; omega), Int.toNat_natCast]
      have e8 : UInt8.ofNat (nB r 8) = r[8]'(by omega) := by
        unfold nB
        rw [List.getD_eq_getElem?_getD, List.getElem?_eq_getElem (by omega)]
        exact byte_back _
      rw [e8, ← List.drop_eq_getElem_cons (by omega), List.take_append_drop]
    · have hl : r.length = 1 := len_of h3' rfl
      match r, hl with
      | [x], _ =>
        have hb : ¬ (6 < x.toNat ∨ x.toNat % 2 = 1) := by simpa [badF, nB] using h4'
        have hf := flag_back6 ⟨x.toNat, by omega⟩ (by show x.toNat % 2 = 0; omega)
        refine ⟨?_, ⟨z32, z64, z64, z64⟩⟩
        show [UInt8.ofNat (flagN false (bitN x.toNat 1) (bitN x.toNat 2) false false)] = [x]
        rw [hf, byte_back]
    · have hl : r.length = 4 := len_of h3' rfl
      exact ⟨le_leVal r 4 hl, ⟨leVal_bound r 4 (by omega), z64, z64, z64⟩⟩
    · have hl : r.length = 8 := len_of h3' rfl
      exact ⟨le_leVal r 8 hl, ⟨z32, leVal_bound r 8 (by omega), z64, z64⟩⟩
end Go.Proofs.YtpomobeogkfmfaaDoor
