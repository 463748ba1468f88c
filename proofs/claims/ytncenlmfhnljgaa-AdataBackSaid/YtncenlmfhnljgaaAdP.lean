/- The plain law of advertising data: what is encoded is decoded, and back. No condition. -/
import Derived.Test.YtncenlmfhnljgaaAd15
namespace Go.Proofs.Ytncenlmfhnljgaa
open Go.RowKit

theorem enc1_len (e : Int × List UInt8) : (enc1 e).length = 2 + e.2.length := by
  unfold enc1
  simp
  omega
theorem encA_cons (e : Int × List UInt8) (es : List (Int × List UInt8)) : encA (e :: es) = enc1 e ++ encA es := rfl
theorem elA_enc1 (e : Int × List UInt8) (r : List UInt8) (h0 : badA e = false) (h1 : e.2.length ≤ 254) : elA (enc1 e ++ r) = (e :: (elA r).1, (elA r).2) := by
  obtain ⟨k, l⟩ := e
  have hk : 0 ≤ k ∧ k ≤ 255 := by
    unfold badA at h0
    simp at h0
    omega
  dsimp only at h1
  have e1 : enc1 (k, l) ++ r = UInt8.ofNat (1 + l.length) :: (UInt8.ofNat k.toNat :: (l ++ r)) := by simp [enc1]
  have hn : (UInt8.ofNat (1 + l.length)).toNat = 1 + l.length := by rw [UInt8.toNat_ofNat']; omega
  rw [e1, elA_one (by rw [hn]; omega) (by rw [hn]; simp; omega), hn]
  have e2 : (UInt8.ofNat k.toNat :: (l ++ r)).drop (1 + l.length) = r := by
    rw [Nat.add_comm, List.drop_succ_cons, List.drop_left]
  have e3 : ((UInt8.ofNat k.toNat :: (l ++ r)).take (1 + l.length)).drop 1 = l := by
    rw [Nat.add_comm, List.take_succ_cons, List.drop_succ_cons, List.drop_zero, List.take_left]
  have e4 : (((UInt8.ofNat k.toNat :: (l ++ r)).getD 0 0).toNat : Int) = k := by
    rw [List.getD_cons_zero, UInt8.toNat_ofNat']
    omega
  rw [e2, e3, e4]
theorem elA_encA : ∀ (es : List (Int × List UInt8)), es.any badA = false → (encA es).length ≤ 31 → elA (encA es) = (es, 0) := by
  intro es
  induction es with
  | nil => intro _ _; exact elA_nil
  | cons e es ih =>
    intro hb hl
    rw [List.any_cons, Bool.or_eq_false_iff] at hb
    rw [encA_cons, List.length_append, enc1_len] at hl
    rw [encA_cons, elA_enc1 e _ hb.1 (by omega), ih hb.2 (by omega)]
theorem encA_elA : ∀ (n : Nat) (l : List UInt8), l.length ≤ n → (elA l).2 = 0 → encA (elA l).1 = l ∧ (elA l).1.any badA = false := by
  intro n
  induction n with
  | zero => intro l h _; have : l = [] := List.length_eq_zero_iff.1 (by omega); subst this; rw [elA_nil]; exact ⟨rfl, rfl⟩
  | succ n ih =>
    intro l h h0
    cases l with
    | nil => rw [elA_nil]; exact ⟨rfl, rfl⟩
    | cons x r =>
      by_cases h1 : x.toNat = 0
      · rw [elA_zero h1] at h0; simp at h0
      · by_cases h2 : r.length < x.toNat
        · rw [elA_short h1 h2] at h0; simp at h0
        · rw [elA_one h1 h2] at h0 ⊢
          have hx := x.toNat_lt
          obtain ⟨k1, k2⟩ := ih (r.drop x.toNat) (by simp at h ⊢; omega) h0
          rcases r with _ | ⟨y, r⟩
          · simp at h2; omega
          have hy := y.toNat_lt
          obtain ⟨m, hm⟩ : ∃ m, x.toNat = m + 1 := ⟨x.toNat - 1, by omega⟩
          rw [hm] at k1 k2 h2 ⊢
          rw [List.drop_succ_cons] at k1 k2
          have hml : m ≤ r.length := by simp at h2; omega
          refine ⟨?_, ?_⟩
          · rw [encA_cons]
            show enc1 (((y :: r).getD 0 0).toNat, ((y :: r).take (m + 1)).drop 1) ++ encA (elA (List.drop (m + 1) (y :: r))).1 = _
            rw [List.drop_succ_cons, k1, List.take_succ_cons, List.drop_succ_cons, List.drop_zero, List.getD_cons_zero]
            unfold enc1
            have e1 : UInt8.ofNat (1 + (r.take m).length) = x := by
              apply UInt8.toNat_inj.1
              rw [UInt8.toNat_ofNat', List.length_take]
              omega
            have e2 : UInt8.ofNat ((y.toNat : Int).toNat) = y := by
              apply UInt8.toNat_inj.1
              rw [UInt8.toNat_ofNat']
              omega
            dsimp only
            rw [e1, e2]
            simp
          · rw [List.any_cons, List.drop_succ_cons, k2, Bool.or_false]
            unfold badA
            simp
            omega
/-- What is encoded is decoded. -/
theorem ad_back {es : List (Int × List UInt8)} (h : encE es = 0) : adE (encR es) = 0 ∧ adL (encR es) = es ∧ (encR es).length ≤ 31 := by
  have h1 : es.any badA = false := by
    by_cases hb : es.any badA = true
    · rw [(encE_bad hb).1] at h; simp at h
    · simpa using hb
  have h2 : ¬ 31 < (encA es).length := fun h2 => by rw [(encE_long h1 h2).1] at h; simp at h
  rw [(encE_ok h1 h2).2]
  have h3 := elA_encA es h1 (by omega)
  have h4 : adE (encA es) = 0 := by unfold adE; rw [if_neg h2, h3]
  exact ⟨h4, by unfold adL; rw [if_pos h4, h3], by omega⟩
/-- What is decoded is encoded. -/
theorem ad_forth {l : List UInt8} (h : adE l = 0) : encE (adL l) = 0 ∧ encR (adL l) = l := by
  have h1 : ¬ 31 < l.length := fun h1 => by unfold adE at h; rw [if_pos h1] at h; simp at h
  have h2 : (elA l).2 = 0 := by unfold adE at h; rwa [if_neg h1] at h
  have h3 : adL l = (elA l).1 := by unfold adL; rw [if_pos h]
  obtain ⟨k1, k2⟩ := encA_elA _ l (Nat.le_refl _) h2
  rw [h3]
  obtain ⟨k3, k4⟩ := encE_ok k2 (by rw [k1]; exact h1)
  exact ⟨k3, by rw [k4, k1]⟩
theorem adL_bad {l : List UInt8} (h : adE l ≠ 0) : adL l = [] := by unfold adL; rw [if_neg h]
/-- The services in the bytes of services. -/
theorem sh2_shB : ∀ (ws : List Nat), (∀ n ∈ ws, n < 65536) → sh2 (shB ws) = ws := by
  intro ws
  induction ws with
  | nil => intro _; rfl
  | cons x r ih =>
    intro h
    have hx := h x (List.mem_cons_self ..)
    have e : shB (x :: r) = UInt8.ofNat x :: UInt8.ofNat (x / 256) :: shB r := rfl
    rw [e, sh2, ih fun n hn => h n (List.mem_cons_of_mem _ hn), UInt8.toNat_ofNat', UInt8.toNat_ofNat']
    congr 1
    omega
theorem bdL_good {f : Int} (_h : ¬ (f < 0 ∨ 255 < f)) (nm : List UInt8) (ws : List Nat) : (bdL f nm ws).any badA = false := by
  unfold bdL bdS bdN bdF
  split <;> split <;> simp [badA]
theorem bdL_flags (f : Int) (nm : List UInt8) (ws : List Nat) : findA (bdL f nm ws) 1 = some [UInt8.ofNat f.toNat] := by
  unfold findA bdL bdF
  simp
theorem bdL_name (f : Int) (nm : List UInt8) (ws : List Nat) : (findA (bdL f nm ws) 9).getD [] = nm := by
  unfold findA bdL bdF bdS bdN
  by_cases h1 : ws.length = 0 <;> by_cases h2 : nm.length = 0 <;> simp [h1, h2] <;> exact (List.eq_nil_of_length_eq_zero h2)
theorem bdL_serv (f : Int) (nm : List UInt8) (ws : List Nat) (h : ∀ n ∈ ws, n < 65536) : servA (bdL f nm ws) = ws := by
  have h3 := sh2_shB ws h
  unfold servA bdL bdF bdS bdN
  by_cases h1 : ws.length = 0 <;> by_cases h2 : nm.length = 0 <;> simp [h1, h2, serv1, h3] <;> exact (List.eq_nil_of_length_eq_zero h1)
theorem bdL_bytes (f : Int) (nm : List UInt8) (ws : List Nat) : ws.length ≤ (encA (bdL f nm ws)).length ∧ nm.length ≤ (encA (bdL f nm ws)).length := by
  have hs := shB_len ws
  unfold encA bdL bdF bdS bdN
  by_cases h1 : ws.length = 0 <;> by_cases h2 : nm.length = 0 <;> simp [h1, h2, enc1_len, hs] <;> omega
/-- Where a name or a list is too long, there is an error, and it is this one. -/
theorem bdE_long {f : Int} (h : ¬ (f < 0 ∨ 255 < f)) {nm : List UInt8} {ws : List Nat} (hl : 31 < nm.length ∨ 31 < ws.length) : bdE f nm ws = 4 ∧ bdR f nm ws = [] := by
  obtain ⟨h1, h2⟩ := bdL_bytes f nm ws
  obtain ⟨h3, h4⟩ := encE_long (bdL_good h nm ws) (by omega)
  exact ⟨(bdE_ok h nm ws).1.trans h3, (bdE_ok h nm ws).2.trans h4⟩
theorem bdE_five {f : Int} {nm : List UInt8} {ws : List Nat} : bdE f nm ws = 5 ↔ (f < 0 ∨ 255 < f) := by
  by_cases h : f < 0 ∨ 255 < f
  · exact ⟨fun _ => h, fun _ => (bdE_bad h nm ws).1⟩
  · refine ⟨fun h5 => ?_, fun h' => absurd h' h⟩
    rw [(bdE_ok h nm ws).1] at h5
    unfold encE at h5
    rw [if_neg (by rw [bdL_good h]; simp)] at h5
    split at h5 <;> simp at h5
theorem bdR_err {f : Int} {nm : List UInt8} {ws : List Nat} (h : bdE f nm ws ≠ 0) : bdR f nm ws = [] := by
  by_cases hb : f < 0 ∨ 255 < f
  · exact (bdE_bad hb nm ws).2
  · rw [(bdE_ok hb nm ws).1] at h
    rw [(bdE_ok hb nm ws).2]
    unfold encR
    rw [if_neg h]
/-- The contents of what was built. -/
theorem bd_contents {f : Int} {nm : List UInt8} {ws : List Nat} (h16 : ∀ n ∈ ws, n < 65536) (h : bdE f nm ws = 0) :
    0 ≤ f ∧ f ≤ 255 ∧ adL (bdR f nm ws) = bdL f nm ws ∧ findA (adL (bdR f nm ws)) 1 = some [UInt8.ofNat f.toNat] ∧ (findA (adL (bdR f nm ws)) 9).getD [] = nm ∧ servA (adL (bdR f nm ws)) = ws := by
  have hb : ¬ (f < 0 ∨ 255 < f) := fun hb => by rw [(bdE_bad hb nm ws).1] at h; simp at h
  rw [(bdE_ok hb nm ws).1] at h
  rw [(bdE_ok hb nm ws).2]
  obtain ⟨_, h2, _⟩ := ad_back h
  rw [h2]
  exact ⟨by omega, by omega, rfl, bdL_flags f nm ws, bdL_name f nm ws, bdL_serv f nm ws h16⟩
end Go.Proofs.Ytncenlmfhnljgaa
