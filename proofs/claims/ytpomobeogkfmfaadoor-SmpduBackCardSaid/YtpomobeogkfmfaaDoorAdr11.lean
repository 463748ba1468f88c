/- The plain mathematics of package address: the address of a text. No condition. -/
import Derived.Test.YtpomobeogkfmfaaDoorAdr10
namespace Go.Proofs.YtpomobeogkfmfaaDoor
open Go.RowKit

/-- Letter number i of a text. -/
def lat (l : List UInt8) (i : Nat) : Nat := (l.getD i 0).toNat
theorem lat_of {s : ByteArray} {i : Nat} (h : i < s.size) : (s[i]).toNat = lat s.data.toList i := by
  have h' : i < s.data.toList.length := by simpa using h
  unfold lat
  rw [List.getD_eq_getElem?_getD, List.getElem?_eq_getElem h']
  rfl
theorem lat_le (l : List UInt8) (i : Nat) : lat l i ≤ 255 := by
  have := (l.getD i 0).toNat_lt
  unfold lat
  omega
/-- The kind that a letter stands for, 0 if there is none. -/
def kindC (c : Nat) : Int := if c = 112 then 1 else if c = 115 then 2 else if c = 114 then 3 else if c = 97 then 4 else 0
/-- The same, of the first k kinds. -/
def kindTo (c : Nat) : Nat → Int
  | 0 => 0
  | k + 1 => if k ≠ 0 ∧ letN k = c then k else kindTo c k
theorem kindTo_5 (c : Nat) : kindTo c 5 = kindC c := by
  by_cases h1 : c = 112
  · subst h1; rfl
  · by_cases h2 : c = 115
    · subst h2; rfl
    · by_cases h3 : c = 114
      · subst h3; rfl
      · by_cases h4 : c = 97
        · subst h4; rfl
        · have e : kindC c = 0 := by unfold kindC; rw [if_neg h1, if_neg h2, if_neg h3, if_neg h4]
          rw [e]
          unfold kindTo
          rw [if_neg (fun h => h4 h.2.symm)]
          unfold kindTo
          rw [if_neg (fun h => h3 h.2.symm)]
          unfold kindTo
          rw [if_neg (fun h => h2 h.2.symm)]
          unfold kindTo
          rw [if_neg (fun h => h1 h.2.symm)]
          rfl
/-- What stands behind group j. -/
def sepC (j : Nat) : Nat := if j = 5 then 47 else 58
def grpOk (l : List UInt8) (j : Nat) : Bool := decide (nibU (lat l (3 * j)) < 16 ∧ nibU (lat l (3 * j + 1)) < 16 ∧ lat l (3 * j + 2) = sepC j)
def bitsP (l : List UInt8) : Nat → Nat
  | 0 => 0
  | j + 1 => bitsP l j * 256 + 16 * nibU (lat l (3 * j)) + nibU (lat l (3 * j + 1))
theorem nibU_le (c : Nat) : nibU c ≤ 16 := by unfold nibU; split <;> (try split) <;> omega
theorem bitsP_lt (l : List UInt8) : ∀ j, (∀ i, i < j → grpOk l i = true) → bitsP l j < 256 ^ j := by
  intro j
  induction j with
  | zero => intro _; simp [bitsP]
  | succ j ih =>
    intro h
    have h1 := ih (fun i hi => h i (by omega))
    have h2 := h j (by omega)
    unfold grpOk at h2
    have h2 := of_decide_eq_true h2
    simp only [bitsP, Nat.pow_succ]
    omega
def allOk (l : List UInt8) : Bool := (List.range 6).all (grpOk l)
theorem allOk_yes {l : List UInt8} (h : ∀ j, j < 6 → grpOk l j = true) : allOk l = true := by
  unfold allOk
  rw [List.all_eq_true]
  intro j hj
  exact h j (by simpa using hj)
theorem allOk_no {l : List UInt8} {j : Nat} (hj : j < 6) (h : grpOk l j = false) : allOk l = false := by
  unfold allOk
  rw [List.all_eq_false]
  exact ⟨j, by simpa using hj, by simp [h]⟩
theorem allOk_at {l : List UInt8} (h : allOk l = true) {j : Nat} (hj : j < 6) : grpOk l j = true := by
  unfold allOk at h
  rw [List.all_eq_true] at h
  exact h j (by simpa using hj)
/-- The error of a text. -/
def prsE (l : List UInt8) : Int := if l.length = 19 ∧ allOk l = true ∧ kindC (lat l 18) ≠ 0 then chkA (kindC (lat l 18)) (bitsP l 6) else 2
def prsK (l : List UInt8) : Int := if prsE l = 0 then kindC (lat l 18) else 0
def prsX (l : List UInt8) : Nat := if prsE l = 0 then bitsP l 6 else 0
theorem prsE_bad {l : List UInt8} (h : ¬ (l.length = 19 ∧ allOk l = true ∧ kindC (lat l 18) ≠ 0)) : prsE l = 2 := by unfold prsE; rw [if_neg h]
theorem prs_bad {l : List UInt8} (h : prsE l ≠ 0) : prsK l = 0 ∧ prsX l = 0 := ⟨by unfold prsK; rw [if_neg h], by unfold prsX; rw [if_neg h]⟩
theorem prs_ok {l : List UInt8} (h : prsE l = 0) : prsK l = kindC (lat l 18) ∧ prsX l = bitsP l 6 := ⟨by unfold prsK; rw [if_pos h], by unfold prsX; rw [if_pos h]⟩

/-- What a reading of an address leaves. -/
def ParsePost (w : World) (l : List UInt8) (e : Ending) (w' : World) : Prop := e = .returned (.tuple #[adr (prsK l) (prsX l), .int .i64 (prsE l)]) ∧ Below w.heap.size w w'
theorem parsePost_bad {w w' : World} {l : List UInt8} {e : Ending} (h : ¬ (l.length = 19 ∧ allOk l = true ∧ kindC (lat l 18) ≠ 0)) (he : e = .returned (.tuple #[adr 0 0, .int .i64 2])) (hb : Below w.heap.size w w') : ParsePost w l e w' := by
  have h1 := prsE_bad h
  have h2 := prs_bad (l := l) (by rw [h1]; decide)
  exact ⟨by rw [h1, h2.1, h2.2, he], hb⟩
theorem parsePost_chk {w w' : World} {l : List UInt8} {e : Ending} (h : l.length = 19 ∧ allOk l = true ∧ kindC (lat l 18) ≠ 0) (hc : chkA (kindC (lat l 18)) (bitsP l 6) ≠ 0)
    (he : e = .returned (.tuple #[adr 0 0, .int .i64 (chkA (kindC (lat l 18)) (bitsP l 6))])) (hb : Below w.heap.size w w') : ParsePost w l e w' := by
  have h1 : prsE l = chkA (kindC (lat l 18)) (bitsP l 6) := by unfold prsE; rw [if_pos h]
  have h2 := prs_bad (l := l) (by rw [h1]; exact hc)
  exact ⟨by rw [h1, h2.1, h2.2, he], hb⟩
theorem parsePost_ok {w w' : World} {l : List UInt8} {e : Ending} (h : l.length = 19 ∧ allOk l = true ∧ kindC (lat l 18) ≠ 0) (hc : chkA (kindC (lat l 18)) (bitsP l 6) = 0)
    (he : e = .returned (.tuple #[adr (kindC (lat l 18)) (bitsP l 6), .int .i64 0])) (hb : Below w.heap.size w w') : ParsePost w l e w' := by
  have h1 : prsE l = 0 := by unfold prsE; rw [if_pos h]; exact hc
  have h2 := prs_ok h1
  exact ⟨by rw [h1, h2.1, h2.2, he], hb⟩

theorem or_group (x h b : Nat) (hx : x < 1099511627776) (hh : h < 16) (hb : b < 16) :
    bits .or .u64 (bits .or .u64 ((x : Int) * 256) ((h : Int) * 16)) (b : Int) = ((x * 256 + 16 * h + b : Nat) : Int) := by
  have e1 : ((x : Int) * 256) = ((x * 256 : Nat) : Int) := by omega
  have e2 : ((h : Int) * 16) = ((h * 16 : Nat) : Int) := by omega
  have a1 := Nat.shiftLeft_add_eq_or_of_lt (b := h * 16) (i := 8) (by omega) x
  rw [Nat.shiftLeft_eq] at a1
  have a2 := Nat.shiftLeft_add_eq_or_of_lt (b := b) (i := 4) (by omega) (x * 16 + h)
  rw [Nat.shiftLeft_eq] at a2
  rw [e1, e2, u64_or_nat _ _ (by omega) (by omega), show x * 256 = x * 2 ^ 8 by rfl, ← a1, show x * 2 ^ 8 + h * 16 = (x * 16 + h) * 2 ^ 4 by omega, u64_or_nat _ _ (by omega) (by omega), ← a2]
  omega
end Go.Proofs.YtpomobeogkfmfaaDoor
