/- The plain laws of package address: texts are read again, numbers make valid addresses, the order is total. No condition. -/
import Derived.Test.YtpomobeogkfmfaaDoorAdr13
namespace Go.Proofs.YtpomobeogkfmfaaDoor
open Go.RowKit

theorem chk_ok {k : Int} {x : Nat} (h : chkA k x = 0) : 1 ≤ k ∧ k ≤ 4 ∧ x < 281474976710656 := by
  unfold chkA at h
  split at h
  · omega
  · split at h
    · omega
    · omega
theorem digU_nib : ∀ n, n < 16 → nibU (digU n).toNat = n := by decide
theorem nib_digU : ∀ c, c < 256 → nibU c < 16 → (digU (nibU c)).toNat = c := by decide +kernel
theorem digU_of {c : UInt8} {n : Nat} (h : nibU c.toNat < 16) (hn : n = nibU c.toNat) : digU n = c := by
  subst hn
  exact UInt8.toNat_inj.1 (nib_digU c.toNat (by have := c.toNat_lt; omega) h)
theorem let_kind : ∀ c, c < 256 → kindC c ≠ 0 → letN (kindC c) = c := by decide +kernel
theorem kind_let {k : Int} (h1 : 1 ≤ k) (h4 : k ≤ 4) : kindC (letN k) = k := by
  obtain rfl | rfl | rfl | rfl : k = 1 ∨ k = 2 ∨ k = 3 ∨ k = 4 := by omega
  all_goals rfl

theorem bits19 (c0 c1 c2 c3 c4 c5 c6 c7 c8 c9 c10 c11 c12 c13 c14 c15 c16 c17 c18 : UInt8) : bitsP [c0, c1, c2, c3, c4, c5, c6, c7, c8, c9, c10, c11, c12, c13, c14, c15, c16, c17, c18] 6 = ((((((((((((0) * 256 + 16 * nibU c0.toNat + nibU c1.toNat)) * 256 + 16 * nibU c3.toNat + nibU c4.toNat)) * 256 + 16 * nibU c6.toNat + nibU c7.toNat)) * 256 + 16 * nibU c9.toNat + nibU c10.toNat)) * 256 + 16 * nibU c12.toNat + nibU c13.toNat)) * 256 + 16 * nibU c15.toNat + nibU c16.toNat) := rfl
theorem ok19 (c0 c1 c2 c3 c4 c5 c6 c7 c8 c9 c10 c11 c12 c13 c14 c15 c16 c17 c18 : UInt8) : allOk [c0, c1, c2, c3, c4, c5, c6, c7, c8, c9, c10, c11, c12, c13, c14, c15, c16, c17, c18] = true ↔ nibU c0.toNat < 16 ∧ nibU c1.toNat < 16 ∧ c2.toNat = 58 ∧ nibU c3.toNat < 16 ∧ nibU c4.toNat < 16 ∧ c5.toNat = 58 ∧ nibU c6.toNat < 16 ∧ nibU c7.toNat < 16 ∧ c8.toNat = 58 ∧ nibU c9.toNat < 16 ∧ nibU c10.toNat < 16 ∧ c11.toNat = 58 ∧ nibU c12.toNat < 16 ∧ nibU c13.toNat < 16 ∧ c14.toNat = 58 ∧ nibU c15.toNat < 16 ∧ nibU c16.toNat < 16 ∧ c17.toNat = 47 := by
  have e : allOk [c0, c1, c2, c3, c4, c5, c6, c7, c8, c9, c10, c11, c12, c13, c14, c15, c16, c17, c18] = (grpOk [c0, c1, c2, c3, c4, c5, c6, c7, c8, c9, c10, c11, c12, c13, c14, c15, c16, c17, c18] 0 && (grpOk [c0, c1, c2, c3, c4, c5, c6, c7, c8, c9, c10, c11, c12, c13, c14, c15, c16, c17, c18] 1 && (grpOk [c0, c1, c2, c3, c4, c5, c6, c7, c8, c9, c10, c11, c12, c13, c14, c15, c16, c17, c18] 2 && (grpOk [c0, c1, c2, c3, c4, c5, c6, c7, c8, c9, c10, c11, c12, c13, c14, c15, c16, c17, c18] 3 && (grpOk [c0, c1, c2, c3, c4, c5, c6, c7, c8, c9, c10, c11, c12, c13, c14, c15, c16, c17, c18] 4 && (grpOk [c0, c1, c2, c3, c4, c5, c6, c7, c8, c9, c10, c11, c12, c13, c14, c15, c16, c17, c18] 5 && true)))))) := rfl
  rw [e]
  simp only [grpOk, Bool.and_eq_true, decide_eq_true_eq, and_true, and_assoc]
  exact Iff.rfl
theorem txtS_list {k : Int} (x : Nat) (hc : chkA k x = 0) : txtS k x = [digU (x / 17592186044416 % 16), digU (x / 1099511627776 % 16), 58, digU (x / 68719476736 % 16), digU (x / 4294967296 % 16), 58, digU (x / 268435456 % 16), digU (x / 16777216 % 16), 58, digU (x / 1048576 % 16), digU (x / 65536 % 16), 58, digU (x / 4096 % 16), digU (x / 256 % 16), 58, digU (x / 16 % 16), digU (x / 1 % 16), 47, UInt8.ofNat (letN k)] := by
  unfold txtS
  rw [if_neg (by simp [hc])]
  have e : x / 1 = x := Nat.div_one x
  rfl

theorem nib_step (z : Nat) : (z / 256) * 256 + 16 * (z / 16 % 16) + z % 16 = z := by omega
/-- The text of a valid address is read again. -/
theorem parse_txt {k : Int} {x : Nat} (hc : chkA k x = 0) : prsE (txtS k x) = 0 ∧ prsK (txtS k x) = k ∧ prsX (txtS k x) = x := by
  obtain ⟨h1, h4, hx⟩ := chk_ok hc
  have hl : (txtS k x).length = 19 := txtS_length x hc
  have hk : kindC (lat (txtS k x) 18) = k := by
    rw [txtS_list x hc]
    show kindC (UInt8.ofNat (letN k)).toNat = k
    rw [UInt8.toNat_ofNat', Nat.mod_eq_of_lt (letN_le k), kind_let h1 h4]
  have ho : allOk (txtS k x) = true := by
    rw [txtS_list x hc, ok19]
    have d : ∀ y, nibU (digU (y % 16)).toNat < 16 := fun y => by rw [digU_nib _ (by omega)]; omega
    exact ⟨d _, d _, rfl, d _, d _, rfl, d _, d _, rfl, d _, d _, rfl, d _, d _, rfl, d _, d _, rfl⟩
  have hb : bitsP (txtS k x) 6 = x := by
    rw [txtS_list x hc, bits19]
    simp only [digU_nib _ (Nat.mod_lt _ (show 0 < 16 by omega))]
    have s0 : 16 * (x / 17592186044416 % 16) + x / 1099511627776 % 16 = x / 1099511627776 := by omega
    have s1 : (x / 1099511627776) * 256 + 16 * (x / 68719476736 % 16) + x / 4294967296 % 16 = x / 4294967296 := by
      have h := nib_step (x / 4294967296)
      simp only [Nat.div_div_eq_div_mul, Nat.reduceMul] at h
      exact h
    have s2 : (x / 4294967296) * 256 + 16 * (x / 268435456 % 16) + x / 16777216 % 16 = x / 16777216 := by
      have h := nib_step (x / 16777216)
      simp only [Nat.div_div_eq_div_mul, Nat.reduceMul] at h
      exact h
    have s3 : (x / 16777216) * 256 + 16 * (x / 1048576 % 16) + x / 65536 % 16 = x / 65536 := by
      have h := nib_step (x / 65536)
      simp only [Nat.div_div_eq_div_mul, Nat.reduceMul] at h
      exact h
    have s4 : (x / 65536) * 256 + 16 * (x / 4096 % 16) + x / 256 % 16 = x / 256 := by
      have h := nib_step (x / 256)
      simp only [Nat.div_div_eq_div_mul, Nat.reduceMul] at h
      exact h
    have s5 : (x / 256) * 256 + 16 * (x / 16 % 16) + x / 1 % 16 = x := by
      rw [Nat.div_one]
      exact nib_step x
    simp only [Nat.zero_mul, Nat.zero_add]
    rw [s0, s1, s2, s3, s4, s5]
  have he : prsE (txtS k x) = 0 := by
    unfold prsE
    rw [hk, hb, if_pos ⟨hl, ho, by omega⟩]
    exact hc
  obtain ⟨a, b⟩ := prs_ok he
  exact ⟨he, a.trans hk, b.trans hb⟩

/-- A text that is accepted is the text of its address. -/
theorem txt_parse {l : List UInt8} (h : prsE l = 0) : txtS (prsK l) (prsX l) = l ∧ chkA (prsK l) (prsX l) = 0 := by
  obtain ⟨a, b⟩ := prs_ok h
  have hw : l.length = 19 ∧ allOk l = true ∧ kindC (lat l 18) ≠ 0 := by
    by_cases hw : l.length = 19 ∧ allOk l = true ∧ kindC (lat l 18) ≠ 0
    · exact hw
    · have := prsE_bad hw
      omega
  have hc : chkA (kindC (lat l 18)) (bitsP l 6) = 0 := by
    unfold prsE at h
    rwa [if_pos hw] at h
  rw [a, b]
  refine ⟨?_, hc⟩
  obtain ⟨hl, ho, hk⟩ := hw
  match l, hl with
  | [c0, c1, c2, c3, c4, c5, c6, c7, c8, c9, c10, c11, c12, c13, c14, c15, c16, c17, c18], _ =>
    rw [txtS_list _ hc]
    rw [ok19] at ho
    obtain ⟨a0, a1, a2, a3, a4, a5, a6, a7, a8, a9, a10, a11, a12, a13, a14, a15, a16, a17⟩ := ho
    have hk' : letN (kindC c18.toNat) = c18.toNat := let_kind c18.toNat (by have := c18.toNat_lt; omega) hk
    have e18 : UInt8.ofNat (letN (kindC (lat [c0, c1, c2, c3, c4, c5, c6, c7, c8, c9, c10, c11, c12, c13, c14, c15, c16, c17, c18] 18))) = c18 := by
      show UInt8.ofNat (letN (kindC c18.toNat)) = c18
      rw [hk']
      exact UInt8.toNat_inj.1 (by rw [UInt8.toNat_ofNat']; have := c18.toNat_lt; omega)
    rw [e18]
    have hb := bits19 c0 c1 c2 c3 c4 c5 c6 c7 c8 c9 c10 c11 c12 c13 c14 c15 c16 c17 c18
    clear h a b hc hk hk' e18
    generalize bitsP [c0, c1, c2, c3, c4, c5, c6, c7, c8, c9, c10, c11, c12, c13, c14, c15, c16, c17, c18] 6 = x at *
    have e2 : c2 = 58 := UInt8.toNat_inj.1 a2
    have e5 : c5 = 58 := UInt8.toNat_inj.1 a5
    have e8 : c8 = 58 := UInt8.toNat_inj.1 a8
    have e11 : c11 = 58 := UInt8.toNat_inj.1 a11
    have e14 : c14 = 58 := UInt8.toNat_inj.1 a14
    have e17 : c17 = 47 := UInt8.toNat_inj.1 a17
    have e0 : digU (x / 17592186044416 % 16) = c0 := digU_of a0 (by omega)
    have e1 : digU (x / 1099511627776 % 16) = c1 := digU_of a1 (by omega)
    have e3 : digU (x / 68719476736 % 16) = c3 := digU_of a3 (by omega)
    have e4 : digU (x / 4294967296 % 16) = c4 := digU_of a4 (by omega)
    have e6 : digU (x / 268435456 % 16) = c6 := digU_of a6 (by omega)
    have e7 : digU (x / 16777216 % 16) = c7 := digU_of a7 (by omega)
    have e9 : digU (x / 1048576 % 16) = c9 := digU_of a9 (by omega)
    have e10 : digU (x / 65536 % 16) = c10 := digU_of a10 (by omega)
    have e12 : digU (x / 4096 % 16) = c12 := digU_of a12 (by omega)
    have e13 : digU (x / 256 % 16) = c13 := digU_of a13 (by omega)
    have e15 : digU (x / 16 % 16) = c15 := digU_of a15 (by omega)
    have e16 : digU (x / 1 % 16) = c16 := digU_of a16 (by omega)
    rw [e0, e1, e2, e3, e4, e5, e6, e7, e8, e9, e10, e11, e12, e13, e14, e15, e16, e17]

/-- Texts of different valid addresses differ. -/
theorem txt_inj {k k' : Int} {x x' : Nat} (hc : chkA k x = 0) (hc' : chkA k' x' = 0) (h : txtS k x = txtS k' x') : k = k' ∧ x = x' := by
  obtain ⟨_, a, b⟩ := parse_txt hc
  obtain ⟨_, a', b'⟩ := parse_txt hc'
  rw [h] at a b
  exact ⟨a.symm.trans a', b.symm.trans b'⟩
theorem txtS_none {k : Int} {x : Nat} (h : chkA k x ≠ 0) : txtS k x = [] := by unfold txtS; rw [if_pos h]
theorem txtS_some {k : Int} {x : Nat} (h : chkA k x = 0) : txtS k x ≠ [] := by
  intro h'
  have := txtS_length x h
  rw [h'] at this
  cases this

theorem preN2 : preN 2 = 3 := rfl
theorem preN3 : preN 3 = 1 := rfl
theorem preN4 : preN 4 = 0 := rfl
theorem mostN2 : mostN 2 = 70368744177663 := rfl
theorem mostN3 : mostN 3 = 4194303 := rfl
theorem mostN4 : mostN 4 = 70368744177663 := rfl
theorem partN2 (y : Nat) : partN 2 y = y % 70368744177664 := by unfold partN; rw [if_neg (by decide)]
theorem partN3 (y : Nat) : partN 3 y = y / 16777216 % 4194304 := by unfold partN; rw [if_pos rfl]
theorem partN4 (y : Nat) : partN 4 y = y % 70368744177664 := by unfold partN; rw [if_neg (by decide)]
theorem chk_2 (f : Nat) (h0 : 0 < f) (h1 : f < 70368744177663) : chkA 2 (211106232532992 + f) = 0 := by
  have e : (211106232532992 + f) / 70368744177664 = 3 := by omega
  have e2 : (211106232532992 + f) % 70368744177664 = f := by omega
  unfold chkA
  rw [if_neg (by omega), if_neg (by omega), if_neg (by omega), preN2, partN2, mostN2, e, e2, if_neg (by omega)]
theorem chk_4 (f : Nat) (h0 : 0 < f) (h1 : f < 70368744177663) : chkA 4 f = 0 := by
  have e : f / 70368744177664 = 0 := by omega
  have e2 : f % 70368744177664 = f := by omega
  unfold chkA
  rw [if_neg (by omega), if_neg (by omega), if_neg (by omega), preN4, partN4, mostN4, e, e2, if_neg (by omega)]
theorem chk_3 (f y : Nat) (h0 : 0 < f) (h1 : f < 4194303) (hy : y < 16777216) : chkA 3 (70368744177664 + f * 16777216 + y) = 0 := by
  have e : (70368744177664 + f * 16777216 + y) / 70368744177664 = 1 := by omega
  have e2 : (70368744177664 + f * 16777216 + y) / 16777216 % 4194304 = f := by omega
  unfold chkA
  rw [if_neg (by omega), if_neg (by omega), if_neg (by omega), preN3, partN3, mostN3, e, e2, if_neg (by omega)]
theorem chk_1 (y : Nat) (h : y < 281474976710656) : chkA 1 y = 0 := by
  unfold chkA
  rw [if_neg (by omega), if_neg (by omega), if_pos rfl]
/-- Numbers make valid addresses. -/
theorem chk_rnd {k : Int} (x : Nat) (h1 : 1 ≤ k) (h4 : k ≤ 4) : rndK k = k ∧ chkA k (rndX k x) = 0 := by
  refine ⟨by unfold rndK; rw [if_pos ⟨h1, h4⟩], ?_⟩
  obtain rfl | rfl | rfl | rfl : k = 1 ∨ k = 2 ∨ k = 3 ∨ k = 4 := by omega
  · unfold rndX
    rw [if_pos rfl]
    exact chk_1 _ (Nat.mod_lt _ (by omega))
  · have f1 := fitN_lt (n := x % 70368744177664) (m := 70368744177663) (by omega) (by omega)
    unfold rndX
    rw [if_neg (by decide), if_pos rfl]
    exact chk_2 _ f1.1 f1.2
  · have f2 := fitN_lt (n := x / 16777216 % 4194304) (m := 4194303) (by omega) (by omega)
    unfold rndX
    rw [if_neg (by decide), if_neg (by decide), if_pos rfl]
    exact chk_3 _ _ f2.1 f2.2 (Nat.mod_lt _ (by omega))
  · have f1 := fitN_lt (n := x % 70368744177664) (m := 70368744177663) (by omega) (by omega)
    unfold rndX
    rw [if_neg (by decide), if_neg (by decide), if_neg (by decide), if_pos rfl]
    exact chk_4 _ f1.1 f1.2
theorem rnd_none {k : Int} (x : Nat) (h : ¬ (1 ≤ k ∧ k ≤ 4)) : rndK k = 0 ∧ rndX k x = 0 := by
  refine ⟨by unfold rndK; rw [if_neg h], ?_⟩
  unfold rndX
  rw [if_neg (by omega), if_neg (by omega), if_neg (by omega), if_neg (by omega)]

/-- The order. -/
theorem cmpA_neg (k : Int) (x : Nat) (k' : Int) (x' : Nat) : cmpA k x k' x' = -cmpA k' x' k x := by
  unfold cmpA cmpI
  repeat' split
  all_goals omega
theorem cmpA_zero (k : Int) (x : Nat) (k' : Int) (x' : Nat) : cmpA k x k' x' = 0 ↔ k = k' ∧ x = x' := by
  unfold cmpA cmpI
  repeat' split
  all_goals omega
theorem cmpA_in (k : Int) (x : Nat) (k' : Int) (x' : Nat) : -1 ≤ cmpA k x k' x' ∧ cmpA k x k' x' ≤ 1 := by
  unfold cmpA cmpI
  repeat' split
  all_goals omega
theorem cmpA_le (a b : Int × Nat) : cmpA a.1 a.2 b.1 b.2 ≤ 0 ↔ a.1 < b.1 ∨ (a.1 = b.1 ∧ a.2 ≤ b.2) := by
  unfold cmpA cmpI
  repeat' split
  all_goals omega
theorem cmpA_lt (a b : Int × Nat) : cmpA a.1 a.2 b.1 b.2 < 0 ↔ a.1 < b.1 ∨ (a.1 = b.1 ∧ a.2 < b.2) := by
  unfold cmpA cmpI
  repeat' split
  all_goals omega
end Go.Proofs.YtpomobeogkfmfaaDoor
