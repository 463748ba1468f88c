/- The walk of the law AddressDecodes: for every argument it returns true, wherever the tables hold their numbers. -/
import Derived.Test.YtpomobeogkfmfaaDoorAdr19
import Derived.Test.YtpomobeogkfmfaaDoorLaw08c
namespace Go.Proofs.YtpomobeogkfmfaaDoor
open Go.RowKit

theorem DecPost.bytes {w w' : World} {l : List UInt8} {e : Ending} (h : DecPost w l e w') : Below w.heap.size w w' ∧ ∃ v, e = .returned (.tuple #[adr (if decE l = 0 then dcK l else 0) (if decE l = 0 then dcX l else 0), v, .int .i64 (decE l)]) ∧ BS w' w'.heap.size v (if decE l = 0 then l.drop 7 else []) := by
  obtain ⟨hb, h1, h2⟩ := h
  refine ⟨hb, ?_⟩
  by_cases hc : decE l = 0
  · obtain ⟨v, he, ho⟩ := h1 hc
    rw [if_pos hc, if_pos hc, if_pos hc, hc]
    exact ⟨v, he, BS.of_own (by rw [List.length_drop]) ho⟩
  · rw [if_neg hc, if_neg hc, if_neg hc]
    exact ⟨_, h2 hc, BS.nil _ _⟩
theorem dec_long {l : List UInt8} (h : decE l = 0) : 7 ≤ l.length ∧ chkA (dcK l) (dcX l) = 0 := by
  unfold decE at h
  by_cases hs : l.length < 7
  · rw [if_pos hs] at h; cases h
  · rw [if_neg hs] at h; exact ⟨by omega, h⟩
theorem leVal_leD (n x : Nat) : leVal (le n x) = x % 2 ^ (8 * n) := by
  induction n with
  | zero => simp [le, leVal, Nat.mod_one]
  | succ n ih =>
    rw [le_succ, leVal_snoc, ih, le_length, UInt8.toNat_ofNat', show 8 * (n + 1) = 8 * n + 8 by omega, Nat.pow_add, Nat.mod_mul, Nat.mul_comm (2 ^ (8 * n))]
theorem leVal_inj : ∀ (l k : List UInt8), l.length = k.length → leVal l = leVal k → l = k
  | [], [], _, _ => rfl
  | a :: l, b :: k, hl, hv => by
    have h1 := a.toNat_lt
    have h2 := b.toNat_lt
    simp only [leVal] at hv
    have e1 : a = b := UInt8.toNat_inj.1 (by omega)
    have e2 := leVal_inj l k (by simpa using hl) (by omega)
    rw [e1, e2]
  | [], _ :: _, hl, _ => by cases hl
  | _ :: _, [], hl, _ => by cases hl
theorem enc_dec {l : List UInt8} (h : 7 ≤ l.length) : encA (dcK l) (dcX l) ++ l.drop 7 = l := by
  match l, h with
  | a :: l, h =>
    have hl : 6 ≤ l.length := by simpa using h
    have e1 : le 6 (dcX (a :: l)) = l.take 6 := by
      refine leVal_inj _ _ (by rw [le_length, List.length_take]; omega) ?_
      rw [leVal_leD]
      have h1 := leVal_lt (l.take 6)
      have e : (l.take 6).length = 6 := by rw [List.length_take]; omega
      rw [e] at h1
      exact Nat.mod_eq_of_lt h1
    have e2 : UInt8.ofNat (dcK (a :: l)).toNat = a := by
      show UInt8.ofNat ((a.toNat : Int)).toNat = a
      rw [Int.toNat_natCast]
      exact UInt8.toNat_inj.1 (by rw [UInt8.toNat_ofNat']; have := a.toNat_lt; omega)
    unfold encA
    rw [e1, e2]
    show a :: (l.take 6 ++ l.drop 6) = a :: l
    rw [List.take_append_drop]

set_option maxRecDepth 100000 in
set_option maxHeartbeats 4000000 in
theorem addressDecodes_long (l : List UInt8) (v : Value) (hl : 300 < l.length) (w : World) (hb : BS w w.heap.size v l) (hT : ATab w) : Calls Tryd.prog 9 #[v] w fun e w' => e = .returned (.bool true) ∧ Below w.heap.size w w' := by
  obtain ⟨A, c, rfl, _⟩ := id hb
  have HT := Lib.hid hT
  clear hb hT
  go_enter Tryd.func9, Tryd.ntmps9
  go_wp2_with fail
  refine (lives08 _ HT.out).mono ?_
  rintro e w1 ⟨rfl, hb1⟩
  go_wp2
  go_ret
  exact ⟨rfl, hb1⟩

set_option maxRecDepth 100000 in
set_option maxHeartbeats 4000000 in
theorem addressDecodes_bad (l : List UInt8) (v : Value) (hl : l.length ≤ 300) (hd : decE l ≠ 0) (w : World) (hb : BS w w.heap.size v l) (hT : ATab w) : Calls Tryd.prog 9 #[v] w fun e w' => e = .returned (.bool true) ∧ Below w.heap.size w w' := by
  have C : ∀ W : World, Below w.heap.size w W → Calls Tryd.prog 30 #[v] W fun e w' => Below W.heap.size W w' ∧ e = .returned (.tuple #[adr 0 0, .slice none 0 0, .int .i64 (decE l)]) := by
    intro W hW
    refine (decode_any l v (by omega) W (hb.on hW) (hT.keep hW)).mono fun e w' hh => ⟨hh.1, hh.2.2 hd⟩
  have R : ∀ W : World, Below w.heap.size w W → Calls Tryd.prog 31 #[v] W fun e w' => Below W.heap.size W w' ∧ e = .returned (.tuple #[adr 0 0, .slice none 0 0, .int .i64 (decE l)]) := by
    intro W hW
    refine (rdecode_any l v (by omega) W (hb.on hW)).mono fun e w' hh => ⟨hh.1, hh.2.2 hd⟩
  have HC := Lib.hid C
  have HR := Lib.hid R
  have HT := Lib.hid hT
  have hd' := ne_bool hd
  obtain ⟨A, c, rfl, _⟩ := id hb
  clear hb hT C R hd
  generalize decE l = E at *
  go_enter Tryd.func9, Tryd.ntmps9
  go_wp2_with fail
  refine (HC.out _ (Below.refl _ _)).mono ?_
  rintro e w1 ⟨hb1, rfl⟩
  have HB1 := Lib.hid hb1
  clear hb1
  go_wp2_with fail
  refine (HR.out _ (HB1.out.alloc HB1.out.size _)).mono ?_
  rintro e w2 ⟨hb2, rfl⟩
  have hc2 := bfar (w1.heap.size + 1) hb2 (by simp)
  have hz2 : w1.heap.size + 1 ≤ w2.heap.size := (by have := hb2.size; simp at this; omega)
  have hz3 : w1.heap.size < w2.heap.size := by omega
  have HB2 := Lib.hid (bthen HB1.out (one hb2))
  clear hb2
  go_wp2_with fail
  refine (same_any _ _ [] [] _ (BS.nil _ _) (BS.nil _ _)).mono ?_
  rintro e w3 ⟨rfl, rfl⟩
  go_wp2_with fail
  refine (lives08 _ (HT.out.keep (HB2.out.alloc HB2.out.size _))).mono ?_
  rintro e w4 ⟨rfl, hb4⟩
  go_wp2
  go_ret
  exact ⟨by simp, bthen HB2.out (one hb4)⟩

set_option maxRecDepth 100000 in
set_option maxHeartbeats 4000000 in
theorem addressDecodes_ok (l : List UInt8) (v : Value) (hl : l.length ≤ 300) (hd : decE l = 0) (w : World) (hb : BS w w.heap.size v l) (hT : ATab w) : Calls Tryd.prog 9 #[v] w fun e w' => e = .returned (.bool true) ∧ Below w.heap.size w w' := by
  obtain ⟨h7, hchk⟩ := dec_long hd
  have hE := enc_dec h7
  have C : ∀ W : World, Below w.heap.size w W → Calls Tryd.prog 30 #[v] W fun e w' => Below W.heap.size W w' ∧ ∃ u, e = .returned (.tuple #[adr (dcK l) (dcX l), u, .int .i64 0]) ∧ BS w' w'.heap.size u (l.drop 7) := by
    intro W hW
    refine (decode_any l v (by omega) W (hb.on hW) (hT.keep hW)).mono fun e w' hh => ?_
    obtain ⟨hB, h1, _⟩ := hh
    obtain ⟨u, he, ho⟩ := h1 hd
    exact ⟨hB, u, he, BS.of_own (by rw [List.length_drop]) ho⟩
  have R : ∀ W : World, Below w.heap.size w W → Calls Tryd.prog 31 #[v] W fun e w' => Below W.heap.size W w' ∧ ∃ u, e = .returned (.tuple #[adr (dcK l) (dcX l), u, .int .i64 0]) ∧ BS w' w'.heap.size u (l.drop 7) := by
    intro W hW
    refine (rdecode_any l v (by omega) W (hb.on hW)).mono fun e w' hh => ?_
    obtain ⟨hB, h1, _⟩ := hh
    obtain ⟨u, he, ho⟩ := h1 hd
    exact ⟨hB, u, he, BS.of_own (by rw [List.length_drop]) ho⟩
  have N : ∀ W : World, Below w.heap.size w W → Calls Tryd.prog 27 #[adr (dcK l) (dcX l)] W fun e w' => Below W.heap.size W w' ∧ ∃ u, e = .returned (.tuple #[u, .int .i64 0]) ∧ w'.ownsRow W.heap.size 5 1 u 7 (bys (encA (dcK l) (dcX l))) := by
    intro W hW
    refine (encode_any (dcK l) (dcX l) W (hT.keep hW)).mono fun e w' hh => ?_
    exact ⟨hh.1, hh.2.1 hchk⟩
  have HC := Lib.hid C
  have HR := Lib.hid R
  have HN := Lib.hid N
  have HT := Lib.hid hT
  have HE := Lib.hid hE
  have HB0 := Lib.hid hb
  have hdl : (l.drop 7).length ≤ 300 := by rw [List.length_drop]; omega
  have HDL := Lib.hid hdl
  have hel := encA_length (dcK l) (dcX l)
  have HEL := Lib.hid hel
  obtain ⟨A, c, rfl, _⟩ := id hb
  clear hb hT C R N hE hd hchk hdl hel
  generalize dcK l = k at *
  generalize dcX l = x at *
  generalize encA k x = y at *
  go_enter Tryd.func9, Tryd.ntmps9
  go_wp2_with fail
  refine (HC.out _ (Below.refl _ _)).mono ?_
  rintro e w1 ⟨hb1, u1, rfl, hu1⟩
  have HB1 := Lib.hid hb1
  have HU1 := Lib.hid hu1
  clear hb1 hu1
  go_wp2_with fail
  refine (HR.out _ (HB1.out.alloc HB1.out.size _)).mono ?_
  rintro e w2 ⟨hb2, u2, rfl, hu2⟩
  have hc2 := bfar (w1.heap.size + 1) hb2 (by simp)
  have hz2 : w1.heap.size + 1 ≤ w2.heap.size := (by have := hb2.size; simp at this; omega)
  have hz3 : w1.heap.size < w2.heap.size := by omega
  have HB2 := Lib.hid (bthen HB1.out (one hb2))
  have HU12 := Lib.hid ((HU1.out.on (al1 w1 _)).on hb2)
  have HU2 := Lib.hid hu2
  have HB2' := Lib.hid (one hb2)
  clear hb2 hu2
  go_wp2_with fail
  refine (same_any _ _ _ _ _ (HU12.out.on (al1 w2 _)) (HU2.out.on (al1 w2 _))).mono ?_
  rintro e w3 ⟨rfl, rfl⟩
  rw [decide_eq_true rfl]
  go_wp2_with fail
  refine (HN.out _ (HB2.out.alloc HB2.out.size _)).mono ?_
  rintro e w4 ⟨hb4, u4, rfl, hu4⟩
  have HB4 := Lib.hid (bthen HB2.out (one hb4))
  have HB4' := Lib.hid (one hb4)
  have HU4 := Lib.hid (own_base hu4 (show w.heap.size ≤ _ by have := HB2.out.size; simp; omega))
  clear hb4 hu4
  go_wp2_with fail
  refine (lives08 _ (HT.out.keep HB4.out)).mono ?_
  rintro e w5 ⟨rfl, hb5⟩
  have HB5 := Lib.hid (bthen HB4.out hb5)
  have HU5 := Lib.hid (own_on HU4.out hb5)
  have HU15 := Lib.hid (((HU12.out.on HB4'.out)).on hb5)
  clear hb5
  go_wp2_with (first
    | (at_builtin
       refine app_sl_g _ elB (by rfl) (.tmp 55) (.tmp 56) rfl rfl HU5.out rfl HU15.out ?_ ?_ ?_ ?_
       (case refine_1 => exact bys_one _)
       (case refine_2 => have := HDL.out; omega)
       (case refine_3 => exact HB5.out.size)
       intro v6 w6 hown6 hg6 hnil6 hat6))
  have hb6 : Below w.heap.size w w6 := below_app HB5.out HU5.out hg6 (Nat.le_refl _) HB5.out.size
  rw [← bys_append, HE.out] at hown6
  have hbs : BS w6 w6.heap.size v6 l := BS.of_own (by have h := congrArg List.length HE.out; rw [List.length_append, HEL.out] at h; exact h) hown6
  refine (same_any _ _ _ _ _ hbs (HB0.out.on hb6)).mono ?_
  rintro e w7 ⟨rfl, rfl⟩
  rw [decide_eq_true rfl]
  go_wp2
  go_ret
  exact ⟨by simp, hb6⟩

theorem addressDecodes_walk (l : List UInt8) (v : Value) (w : World) (hb : BS w w.heap.size v l) (hT : ATab w) : Calls Tryd.prog 9 #[v] w fun e w' => e = .returned (.bool true) ∧ Below w.heap.size w w' := by
  by_cases h : 300 < l.length
  · exact addressDecodes_long l v h w hb hT
  · by_cases hd : decE l = 0
    · exact addressDecodes_ok l v (by omega) hd w hb hT
    · exact addressDecodes_bad l v (by omega) hd w hb hT
end Go.Proofs.YtpomobeogkfmfaaDoor
