/- The walks of the laws AddressParses, AddressOrder: for every argument they return true, wherever the tables hold their numbers. -/
import Derived.Test.YtpomobeogkfmfaaDoorAdr15
namespace Go.Proofs.YtpomobeogkfmfaaDoor
open Go.RowKit

set_option maxRecDepth 100000 in
set_option maxHeartbeats 4000000 in
theorem addressParses_walk (s : ByteArray) (hs : s.size ≤ 9223372036854775807) (w : World) (hT : ATab w) : Calls Tryd.prog 6 #[.string s] w fun e w' => e = .returned (.bool true) ∧ Below w.heap.size w w' := by
  have HT := Lib.hid hT
  by_cases h100 : 100 < s.size
  · clear hT
    go_enter Tryd.func6, Tryd.ntmps6
    go_wp2_with fail
    refine (lives08 _ HT.out).mono ?_
    rintro e w1 ⟨rfl, hb1⟩
    go_wp2
    go_ret
    exact ⟨rfl, hb1⟩
  · have C := Lib.hid (parse_any s)
    have R := Lib.hid (rparse_any s)
    have hd : decide ((100 : Int) < (s.size : Int)) = false := decide_eq_false (by omega)
    clear hT h100
    by_cases hE : prsE s.data.toList = 0
    · have K := Lib.hid (show ∀ w : World, ATab w → Calls Tryd.prog 21 #[adr (prsK s.data.toList) (prsX s.data.toList)] w fun e w' => e = .returned (.string s) ∧ Below w.heap.size w w' by
        intro w hT
        obtain ⟨e1, e2⟩ := txt_parse hE
        have h := text_any (prsK s.data.toList) (prsX s.data.toList) (by have := (chk_ok e2).2.2; omega) w hT
        rwa [e1, show (⟨s.data.toList.toArray⟩ : ByteArray) = s from rfl] at h)
      have HE := Lib.hid hE
      clear hE
      go_enter Tryd.func6, Tryd.ntmps6
      go_wp2_with fail
      refine (C.out _ HT.out).mono ?_
      rintro e w1 ⟨rfl, hb1⟩
      have HB1 := Lib.hid hb1
      clear hb1
      go_wp2_with fail
      refine (R.out _).mono ?_
      rintro e w2 ⟨rfl, hb2⟩
      have hc2 := bfar (w1.heap.size + 1) hb2 (by simp)
      have hz2 : w1.heap.size + 1 ≤ w2.heap.size := (by have := hb2.size; simp at this; omega)
      have HB2 := Lib.hid (bthen HB1.out (one hb2))
      clear hb2
      rw [HE.out]
      generalize prsK s.data.toList = k at *
      generalize prsX s.data.toList = x at *
      go_wp2_with fail
      refine (lives08 _ (HT.out.keep (HB2.out.alloc HB2.out.size _))).mono ?_
      rintro e w3 ⟨rfl, hb3⟩
      have hc3 := bfar (w2.heap.size + 1) hb3 (by simp)
      have hz3 : w2.heap.size + 1 ≤ w3.heap.size := (by have := hb3.size; simp at this; omega)
      have hz4 : w1.heap.size < w2.heap.size + 1 := by omega
      have hz5 : w1.heap.size < w2.heap.size := by omega
      have HB3 := Lib.hid (bthen HB2.out (one hb3))
      clear hb3
      go_wp2_with fail
      refine (K.out _ (HT.out.keep HB3.out)).mono ?_
      rintro e w4 ⟨rfl, hb4⟩
      go_wp2
      go_ret
      exact ⟨by simp, bthen HB3.out hb4⟩
    · have hE' := ne_bool hE
      clear hE
      go_enter Tryd.func6, Tryd.ntmps6
      go_wp2_with fail
      refine (C.out _ HT.out).mono ?_
      rintro e w1 ⟨rfl, hb1⟩
      have HB1 := Lib.hid hb1
      clear hb1
      go_wp2_with fail
      refine (R.out _).mono ?_
      rintro e w2 ⟨rfl, hb2⟩
      have hc2 := bfar (w1.heap.size + 1) hb2 (by simp)
      have hz2 : w1.heap.size + 1 ≤ w2.heap.size := (by have := hb2.size; simp at this; omega)
      have HB2 := Lib.hid (bthen HB1.out (one hb2))
      clear hb2
      generalize prsK s.data.toList = k at *
      generalize prsX s.data.toList = x at *
      generalize prsE s.data.toList = E at *
      go_wp2_with fail
      refine (lives08 _ (HT.out.keep (HB2.out.alloc HB2.out.size _))).mono ?_
      rintro e w3 ⟨rfl, hb3⟩
      have hc3 := bfar (w2.heap.size + 1) hb3 (by simp)
      have hz4 : w1.heap.size < w2.heap.size + 1 := by omega
      have hz5 : w1.heap.size < w2.heap.size := by omega
      have HB3 := Lib.hid (bthen HB2.out (one hb3))
      clear hb3
      go_wp2
      go_ret
      exact ⟨by simp, HB3.out⟩

set_option maxRecDepth 100000 in
set_option maxHeartbeats 8000000 in
theorem addressOrder_walk (k : Int) (x : Nat) (k' : Int) (x' : Nat) (k'' : Int) (x'' : Nat) (w : World) (hT : ATab w) : Calls Tryd.prog 7 #[adr k x, adr k' x', adr k'' x''] w fun e w' => e = .returned (.bool true) ∧ Below w.heap.size w w' := by
  have HT := Lib.hid hT
  have C1 := compare_any k x k' x'
  have C2 := compare_any k' x' k'' x''
  have C3 := compare_any k x k'' x''
  have C4 := compare_any k' x' k x
  have R := rcompare_any k x k' x'
  have hn := cmpA_neg k x k' x'
  have hz := cmpA_zero k x k' x'
  have i4 := cmpA_in k' x' k x
  have l1 := cmpA_le (k, x) (k', x')
  have l2 := cmpA_le (k', x') (k'', x'')
  have l3 := cmpA_le (k, x) (k'', x'')
  have m1 := cmpA_lt (k, x) (k', x')
  have m2 := cmpA_lt (k', x') (k'', x'')
  have m3 := cmpA_lt (k, x) (k'', x'')
  simp only at l1 l2 l3 m1 m2 m3
  generalize cmpA k x k' x' = X at *
  generalize cmpA k' x' k'' x'' = Y at *
  generalize cmpA k x k'' x'' = Z at *
  generalize cmpA k' x' k x = V at *
  have p1 : 0 < X ∨ 0 < Y ∨ Z ≤ 0 := by omega
  have p2 : 0 ≤ X ∨ 0 ≤ Y ∨ Z < 0 := by omega
  have hV : (X != -V) = false := eq_bool hn
  obtain ⟨i4a, i4b⟩ := i4
  have HP := Lib.hid (And.intro p1 p2)
  have HZ := Lib.hid hz
  have HC1 := Lib.hid C1
  have HC2 := Lib.hid C2
  have HC3 := Lib.hid C3
  have HC4 := Lib.hid C4
  have HR := Lib.hid R
  clear hT C1 C2 C3 C4 R hn hz l1 l2 l3 m1 m2 m3 p1 p2
  go_enter Tryd.func7, Tryd.ntmps7
  go_wp2_with fail
  generalize hW : ((w.alloc (.cells #[.int .i64 k, .int .u64 (x : Int)] 24)).alloc (.cells #[.int .i64 k', .int .u64 (x' : Int)] 24)).alloc (.cells #[.int .i64 k'', .int .u64 (x'' : Int)] 24) = W
  have hB0 : Below w.heap.size w W := by rw [← hW]; exact al3 w _ _ _
  have hs0 : w.heap.size + 3 ≤ W.heap.size := by rw [← hW]; simp
  have q0 : W.cell? ⟨w.heap.size, 0, none⟩ = some (.int .i64 k) := by rw [← hW]; simp [go_sem]
  have q1 : W.cell? ⟨w.heap.size, 1, none⟩ = some (.int .u64 (x : Int)) := by rw [← hW]; simp [go_sem]
  have q2 : W.cell? ⟨w.heap.size + 1, 0, none⟩ = some (.int .i64 k') := by rw [← hW]; simp [go_sem]
  have q3 : W.cell? ⟨w.heap.size + 1, 1, none⟩ = some (.int .u64 (x' : Int)) := by rw [← hW]; simp [go_sem]
  have q4 : W.cell? ⟨w.heap.size + 1 + 1, 0, none⟩ = some (.int .i64 k'') := by
    rw [← hW, show w.heap.size + 1 + 1 = ((w.alloc (.cells #[.int .i64 k, .int .u64 (x : Int)] 24)).alloc (.cells #[.int .i64 k', .int .u64 (x' : Int)] 24)).heap.size by simp]
    exact cell_of_row _ _ _ _ _ (0, 0) (heap_alloc_new _ _)
  have q5 : W.cell? ⟨w.heap.size + 1 + 1, 1, none⟩ = some (.int .u64 (x'' : Int)) := by
    rw [← hW, show w.heap.size + 1 + 1 = ((w.alloc (.cells #[.int .i64 k, .int .u64 (x : Int)] 24)).alloc (.cells #[.int .i64 k', .int .u64 (x' : Int)] 24)).heap.size by simp]
    exact cell_of_row _ _ _ _ _ (0, 0) (heap_alloc_new _ _)
  have HB0 := Lib.hid hB0
  have hs1 : w.heap.size < w.heap.size + 3 := by omega
  have hs2 : w.heap.size + 1 < w.heap.size + 3 := by omega
  have hs3 : w.heap.size + 1 + 1 < w.heap.size + 3 := by omega
  clear hW hB0
  go_region_held3 (fun w' => w'.cell? ⟨w.heap.size, 0, none⟩ = some (.int .i64 k) ∧ w'.cell? ⟨w.heap.size, 1, none⟩ = some (.int .u64 (x : Int)) ∧ w'.cell? ⟨w.heap.size + 1, 0, none⟩ = some (.int .i64 k') ∧ w'.cell? ⟨w.heap.size + 1, 1, none⟩ = some (.int .u64 (x' : Int)) ∧
      w'.cell? ⟨w.heap.size + 1 + 1, 0, none⟩ = some (.int .i64 k'') ∧ w'.cell? ⟨w.heap.size + 1 + 1, 1, none⟩ = some (.int .u64 (x'' : Int))) (go_keep)
    (first
      | (go_at_call 25; with_reducible refine (HC1.out _).mono ?_; rintro e w1 ⟨rfl, hb1⟩; have hc1 := bfar (w.heap.size + 3) hb1 (by simpa using hs0); have hz1 : w.heap.size + 3 ≤ w1.heap.size := (by have := hb1.size; simp at this; omega))
      | (go_at_call 25; with_reducible refine (HC2.out _).mono ?_; rintro e w2 ⟨rfl, hb2⟩; have hc2 := bfar (w.heap.size + 3) hb2 hz1; have hz2 : w.heap.size + 3 ≤ w2.heap.size := (by have := hb2.size; omega))
      | (go_at_call 25; with_reducible refine (HC3.out _).mono ?_; rintro e w3 ⟨rfl, hb3⟩; have hc3 := bfar (w.heap.size + 3) hb3 hz2; have hz3 : w.heap.size + 3 ≤ w3.heap.size := (by have := hb3.size; omega)))
  have HB3 := Lib.hid (bthen (bthen (bthen HB0.out.drew hb1) hb2) hb3)
  clear hb1 hb2 hb3
  have hX : 0 < X ∨ X = 0 ∨ X < 0 := by omega
  go_wp2_with fail
  refine (HR.out _).mono ?_
  rintro e w4 ⟨rfl, hb4⟩
  have hc4 := bfar (w.heap.size + 3) hb4 (by omega)
  have hz4 : w.heap.size + 3 ≤ w4.heap.size := (by have := hb4.size; omega)
  have HB4 := Lib.hid (bthen HB3.out hb4)
  clear hb4
  go_wp2_with fail
  refine (HC4.out _).mono ?_
  rintro e w5 ⟨rfl, hb5⟩
  have hc5 := bfar (w.heap.size + 3) hb5 hz4
  have hz5 : w.heap.size + 3 ≤ w5.heap.size := (by have := hb5.size; omega)
  have HB5 := Lib.hid (bthen HB4.out hb5)
  clear hb5
  have hfs : ∃ b0 b1 b2 b3 b4 b5 b6 : Bool, (X == 0) = b0 ∧ decide (0 < X) = b1 ∧ decide (0 < Y) = b2 ∧ decide (Z ≤ 0) = b3 ∧ decide (0 ≤ X) = b4 ∧ decide (0 ≤ Y) = b5 ∧ decide (Z < 0) = b6 ∧ (b1 || (b2 || b3)) = true ∧ (b4 || (b5 || b6)) = true := by
    refine ⟨_, _, _, _, _, _, _, rfl, rfl, rfl, rfl, rfl, rfl, rfl, ?_, ?_⟩
    · simpa using HP.out.1
    · simpa using HP.out.2
  obtain ⟨b0, b1, b2, b3, b4, b5, b6, f0, f1, f2, f3, f4, f5, f6, g1, g2⟩ := hfs
  have hcase : ((k == k') = false ∧ b0 = false) ∨ ((k == k') = true ∧ ((x : Int) == x') = false ∧ b0 = false) ∨ ((k == k') = true ∧ ((x : Int) == x') = true ∧ b0 = true) := by
    have hz := HZ.out
    by_cases h1 : k = k'
    · by_cases h2 : x = x'
      · exact .inr (.inr ⟨eqq_bool h1, eqq_bool (by omega), by rw [← f0]; exact eqq_bool (hz.2 ⟨h1, h2⟩)⟩)
      · exact .inr (.inl ⟨eqq_bool h1, neq_bool (by omega), by rw [← f0]; exact neq_bool (fun h => h2 (hz.1 h).2)⟩)
    · exact .inl ⟨neq_bool h1, by rw [← f0]; exact neq_bool (fun h => h1 (hz.1 h).1)⟩
  clear hX
  rcases hcase with ⟨e1, rfl⟩ | ⟨e1, e2, rfl⟩ | ⟨e1, e2, rfl⟩
  all_goals
    go_wp2_with fail
    refine (lives08 _ (HT.out.keep HB5.out)).mono ?_
    rintro e w6 ⟨rfl, hb6⟩
    rcases b1 with _ | _ <;> rcases b2 with _ | _ <;> rcases b3 with _ | _ <;> rcases b4 with _ | _ <;> rcases b5 with _ | _ <;> rcases b6 with _ | _ <;> first | (exfalso; revert g1; decide) | (exfalso; revert g2; decide) | (clear g1 g2; go_wp2_with fail; go_ret; exact ⟨rfl, bthen HB5.out hb6⟩)
end Go.Proofs.YtpomobeogkfmfaaDoor
