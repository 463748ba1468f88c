/- The walks of the laws AddressChecks, AddressMakes, AddressTexts: for every argument they return true, wherever the tables hold their numbers. -/
import Derived.Test.YtpomobeogkfmfaaDoorAdr15
namespace Go.Proofs.YtpomobeogkfmfaaDoor
open Go.RowKit

set_option maxRecDepth 100000 in
set_option maxHeartbeats 4000000 in
theorem addressChecks_walk (k : Int) (x : Nat) (w : World) (hT : ATab w) : Calls Tryd.prog 3 #[adr k x] w fun e w' => e = .returned (.bool true) ∧ Below w.heap.size w w' := by
  have HT := Lib.hid hT
  clear hT
  go_enter Tryd.func3, Tryd.ntmps3
  go_wp2_with fail
  go_region_held3 (fun w' => w'.cell? ⟨w.heap.size, 0, none⟩ = some (.int .i64 k) ∧ w'.cell? ⟨w.heap.size, 1, none⟩ = some (.int .u64 (x : Int))) (go_keep)
    (first
      | (go_at_call 16; refine (lives08 _ ?_).mono ?_; exact (HT.out.keep ((al1 w _).drew)); rintro e w1 ⟨rfl, hb1⟩; have hc1 := bfar (w.heap.size + 1) hb1 (by simp); have hz1 : w.heap.size + 1 ≤ w1.heap.size := (by have := hb1.size; simp at this; omega))
      | (go_at_call 17; refine (check_any _ _ _ ?_).mono ?_; exact (HT.out.keep (((al1 w _).drew).trans (hb1.mono (by simp)))); rintro e w2 ⟨rfl, hb2⟩; have hc2 := bfar (w.heap.size + 1) hb2 hz1; have hz2 : w.heap.size + 1 ≤ w2.heap.size := (by have := hb2.size; omega))
      | (go_at_call 18; refine (rcheck_any _ _ _).mono ?_; rintro e w3 ⟨rfl, hb3⟩; have hc3 := bfar (w.heap.size + 1) hb3 hz2))
  go_wp2
  go_ret
  exact ⟨by simp, bthen (bthen (((al1 w _).drew).trans (hb1.mono (by simp))) hb2) hb3⟩

set_option maxRecDepth 100000 in
set_option maxHeartbeats 4000000 in
theorem addressMakes_none (k : Int) (x : Nat) (hx : x < 18446744073709551616) (h : ¬ (1 ≤ k ∧ k ≤ 4)) (w : World) (hT : ATab w) : Calls Tryd.prog 4 #[.int .i64 k, .int .u64 (x : Int)] w fun e w' => e = .returned (.bool true) ∧ Below w.heap.size w w' := by
  have HT := Lib.hid hT
  obtain ⟨e1, e2⟩ := rnd_none x h
  have C := Lib.hid (show Calls Tryd.prog 19 #[.int .i64 k, .int .u64 (x : Int)] w fun e w' => e = .returned (adr 0 0) ∧ Below w.heap.size w w' by
    have := random_any k x hx w hT
    rwa [e1, e2] at this)
  clear hT e1 e2
  rcases (show k < 1 ∨ 4 < k by omega) with h1 | h1
  all_goals
    go_enter Tryd.func4, Tryd.ntmps4
    go_wp2_with fail
    refine C.out.mono ?_
    rintro e w1 ⟨rfl, hb1⟩
    have HB1 := Lib.hid hb1
    clear hb1
    go_wp2_with fail
    refine (lives08 _ ?_).mono ?_
    · exact HT.out.keep (HB1.out.alloc HB1.out.size _)
    rintro e w2 ⟨rfl, hb2⟩
    have hc2 := bfar (w1.heap.size + 1) hb2 (by simp)
    go_wp2
    go_ret
    exact ⟨by simp, bthen HB1.out (one hb2)⟩

set_option maxRecDepth 100000 in
set_option maxHeartbeats 4000000 in
theorem addressMakes_some (k : Int) (x : Nat) (hx : x < 18446744073709551616) (h : 1 ≤ k ∧ k ≤ 4) (w : World) (hT : ATab w) : Calls Tryd.prog 4 #[.int .i64 k, .int .u64 (x : Int)] w fun e w' => e = .returned (.bool true) ∧ Below w.heap.size w w' := by
  have HT := Lib.hid hT
  obtain ⟨e1, e2⟩ := chk_rnd x h.1 h.2
  have C := Lib.hid (show Calls Tryd.prog 19 #[.int .i64 k, .int .u64 (x : Int)] w fun e w' => e = .returned (adr k (rndX k x)) ∧ Below w.heap.size w w' by
    have := random_any k x hx w hT
    rwa [e1] at this)
  have R := Lib.hid (show ∀ w : World, Calls Tryd.prog 20 #[.int .i64 k, .int .u64 (x : Int)] w fun e w' => e = .returned (adr k (rndX k x)) ∧ Below w.heap.size w w' by
    intro w
    have := rrandom_any k x hx w
    rwa [e1] at this)
  have K := Lib.hid (show ∀ w : World, ATab w → Calls Tryd.prog 17 #[adr k (rndX k x)] w fun e w' => e = .returned (.int .i64 0) ∧ Below w.heap.size w w' by
    intro w hT
    have := check_any k (rndX k x) w hT
    rwa [e2] at this)
  clear hT e1 e2
  generalize rndX k x = y at *
  obtain ⟨h1, h4⟩ := h
  have h1' : ¬ k < 1 := by omega
  have h4' : ¬ 4 < k := by omega
  go_enter Tryd.func4, Tryd.ntmps4
  go_wp2_with fail
  refine C.out.mono ?_
  rintro e w1 ⟨rfl, hb1⟩
  have HB1 := Lib.hid hb1
  clear hb1
  go_wp2_with fail
  go_region_held3 (fun w' => w'.cell? ⟨w1.heap.size, 0, none⟩ = some (.int .i64 k) ∧ w'.cell? ⟨w1.heap.size, 1, none⟩ = some (.int .u64 (y : Int))) (go_keep)
    (first
      | (go_at_call 16; refine (lives08 _ ?_).mono ?_; exact (HT.out.keep ((HB1.out.alloc HB1.out.size _).drew)); rintro e w2 ⟨rfl, hb2⟩; have hc2 := bfar (w1.heap.size + 1) hb2 (by simp); have hz2 : w1.heap.size + 1 ≤ w2.heap.size := (by have := hb2.size; simp at this; omega))
      | (go_at_call 20; refine (R.out _).mono ?_; rintro e w3 ⟨rfl, hb3⟩; have hc3 := bfar (w1.heap.size + 1) hb3 hz2; have hz3 : w1.heap.size + 1 ≤ w3.heap.size := (by have := hb3.size; omega))
      | (go_at_call 17; refine (K.out _ ?_).mono ?_; exact (HT.out.keep (bthen (((HB1.out.alloc HB1.out.size _).drew).trans (hb2.mono (by have := HB1.out.size; simp; omega))) hb3)); rintro e w4 ⟨rfl, hb4⟩; have hc4 := bfar (w1.heap.size + 1) hb4 hz3))
  go_wp2
  go_ret
  exact ⟨by simp, bthen (bthen (((HB1.out.alloc HB1.out.size _).drew).trans (hb2.mono (by have := HB1.out.size; simp; omega))) hb3) hb4⟩
theorem addressMakes_walk (k : Int) (x : Nat) (hx : x < 18446744073709551616) (w : World) (hT : ATab w) : Calls Tryd.prog 4 #[.int .i64 k, .int .u64 (x : Int)] w fun e w' => e = .returned (.bool true) ∧ Below w.heap.size w w' := by
  by_cases h : 1 ≤ k ∧ k ≤ 4
  · exact addressMakes_some k x hx h w hT
  · exact addressMakes_none k x hx h w hT

set_option maxRecDepth 100000 in
set_option maxHeartbeats 4000000 in
theorem addressTexts_none (k : Int) (x : Nat) (k' : Int) (x' : Nat) (hc : chkA k x ≠ 0) (w : World) (hT : ATab w) : Calls Tryd.prog 5 #[adr k x, adr k' x'] w fun e w' => e = .returned (.bool true) ∧ Below w.heap.size w w' := by
  have HT := Lib.hid hT
  have C := Lib.hid (show ∀ w : World, ATab w → Calls Tryd.prog 21 #[adr k x] w fun e w' => e = .returned (.string ⟨#[]⟩) ∧ Below w.heap.size w w' from fun w hT => text_no k x hc w hT)
  have R := Lib.hid (show ∀ w : World, Calls Tryd.prog 22 #[adr k x] w fun e w' => e = .returned (.string ⟨#[]⟩) ∧ Below w.heap.size w w' from fun w => rtext_no k x hc w)
  clear hT hc
  go_enter Tryd.func5, Tryd.ntmps5
  go_wp2_with fail
  refine (C.out _ (HT.out.keep (al2 w _ _))).mono ?_
  rintro e w1 ⟨rfl, hb1⟩
  have hc1 := bfar (w.heap.size + 2) hb1 (by simp)
  have hz1 : w.heap.size + 2 ≤ w1.heap.size := (by have := hb1.size; simp at this; omega)
  have HB1 := Lib.hid (two hb1)
  clear hb1
  go_wp2_with fail
  refine (R.out _).mono ?_
  rintro e w2 ⟨rfl, hb2⟩
  have hc2 := bfar (w.heap.size + 2) hb2 hz1
  have hz2 : w.heap.size + 2 ≤ w2.heap.size := (by have := hb2.size; omega)
  have HB2 := Lib.hid (bthen HB1.out hb2)
  clear hb2
  go_wp2_with fail
  refine wp_region_any (by kernel_rfl) ?_
  try (change wpAny _ _ _ _ _ _ _ (World.drew _))
  refine wpAny_ready (rs := [0]) (by kernel_rfl) (by simp) ?_
  refine AllReady.cons rfl (fun K hK => ?_) AllReady.nil
  go_simp
  refine (lives08 _ (HT.out.keep (HB2.out.drew))).mono ?_
  rintro e w3 ⟨rfl, hb3⟩
  go_simp
  refine hK _ _ ?_
  clear hK K
  first
    | (refine wpAny_take (i := 1) (v := undef) rfl (by kernel_rfl) (by kernel_rfl) (by kernel_rfl) (fun _ _ _ h => h) (Or.inr ⟨by rfl, rfl⟩) ?_)
    | (refine wpAny_take (i := 1) (v := ?_) rfl (by kernel_rfl) (by kernel_rfl) (by kernel_rfl) (fun _ _ _ h => h) (Or.inl ⟨by rfl, ?_⟩) ?_
       rotate_left
       · intro w
         go_simp
         first | done | with_reducible rfl)
  simp only [Act.put, List.getElem_toArray, List.getElem_cons_succ, List.getElem_cons_zero, List.setIfInBounds_toArray, List.set_cons_zero, List.set_cons_succ]
  first
    | (refine wpAny_take (i := 2) (v := undef) rfl (by kernel_rfl) (by kernel_rfl) (by kernel_rfl) (fun _ _ _ h => h) (Or.inr ⟨by rfl, rfl⟩) ?_)
    | (refine wpAny_take (i := 2) (v := ?_) rfl (by kernel_rfl) (by kernel_rfl) (by kernel_rfl) (fun _ _ _ h => h) (Or.inl ⟨by rfl, ?_⟩) ?_
       rotate_left
       · intro w
         go_simp
         first | done | with_reducible rfl)
  simp only [Act.put, List.getElem_toArray, List.getElem_cons_succ, List.getElem_cons_zero, List.setIfInBounds_toArray, List.set_cons_zero, List.set_cons_succ]
  first
    | (refine wpAny_take (i := 3) (v := undef) rfl (by kernel_rfl) (by kernel_rfl) (by kernel_rfl) (fun _ _ _ h => h) (Or.inr ⟨by rfl, rfl⟩) ?_)
    | (refine wpAny_take (i := 3) (v := ?_) rfl (by kernel_rfl) (by kernel_rfl) (by kernel_rfl) (fun _ _ _ h => h) (Or.inl ⟨by rfl, ?_⟩) ?_
       rotate_left
       · intro w
         go_simp
         first | done | with_reducible rfl)
  simp only [Act.put, List.getElem_toArray, List.getElem_cons_succ, List.getElem_cons_zero, List.setIfInBounds_toArray, List.set_cons_zero, List.set_cons_succ]
  first
    | (refine wpAny_take (i := 4) (v := undef) rfl (by kernel_rfl) (by kernel_rfl) (by kernel_rfl) (fun _ _ _ h => h) (Or.inr ⟨by rfl, rfl⟩) ?_)
    | (refine wpAny_take (i := 4) (v := ?_) rfl (by kernel_rfl) (by kernel_rfl) (by kernel_rfl) (fun _ _ _ h => h) (Or.inl ⟨by rfl, ?_⟩) ?_
       rotate_left
       · intro w
         go_simp
         first | done | with_reducible rfl)
  simp only [Act.put, List.getElem_toArray, List.getElem_cons_succ, List.getElem_cons_zero, List.setIfInBounds_toArray, List.set_cons_zero, List.set_cons_succ]
  first
    | (refine wpAny_take (i := 5) (v := undef) rfl (by kernel_rfl) (by kernel_rfl) (by kernel_rfl) (fun _ _ _ h => h) (Or.inr ⟨by rfl, rfl⟩) ?_)
    | (refine wpAny_take (i := 5) (v := ?_) rfl (by kernel_rfl) (by kernel_rfl) (by kernel_rfl) (fun _ _ _ h => h) (Or.inl ⟨by rfl, ?_⟩) ?_
       rotate_left
       · intro w
         go_simp
         first | done | with_reducible rfl)
  simp only [Act.put, List.getElem_toArray, List.getElem_cons_succ, List.getElem_cons_zero, List.setIfInBounds_toArray, List.set_cons_zero, List.set_cons_succ]
  first
    | (refine wpAny_take (i := 6) (v := undef) rfl (by kernel_rfl) (by kernel_rfl) (by kernel_rfl) (fun _ _ _ h => h) (Or.inr ⟨by rfl, rfl⟩) ?_)
    | (refine wpAny_take (i := 6) (v := ?_) rfl (by kernel_rfl) (by kernel_rfl) (by kernel_rfl) (fun _ _ _ h => h) (Or.inl ⟨by rfl, ?_⟩) ?_
       rotate_left
       · intro w
         go_simp
         first | done | with_reducible rfl)
  simp only [Act.put, List.getElem_toArray, List.getElem_cons_succ, List.getElem_cons_zero, List.setIfInBounds_toArray, List.set_cons_zero, List.set_cons_succ]
  first
    | (refine wpAny_take (i := 7) (v := undef) rfl (by kernel_rfl) (by kernel_rfl) (by kernel_rfl) (fun _ _ _ h => h) (Or.inr ⟨by rfl, rfl⟩) ?_)
    | (refine wpAny_take (i := 7) (v := ?_) rfl (by kernel_rfl) (by kernel_rfl) (by kernel_rfl) (fun _ _ _ h => h) (Or.inl ⟨by rfl, ?_⟩) ?_
       rotate_left
       · intro w
         go_simp
         first | done | with_reducible rfl)
  simp only [Act.put, List.getElem_toArray, List.getElem_cons_succ, List.getElem_cons_zero, List.setIfInBounds_toArray, List.set_cons_zero, List.set_cons_succ]
  first
    | (refine wpAny_take (i := 8) (v := undef) rfl (by kernel_rfl) (by kernel_rfl) (by kernel_rfl) (fun _ _ _ h => h) (Or.inr ⟨by rfl, rfl⟩) ?_)
    | (refine wpAny_take (i := 8) (v := ?_) rfl (by kernel_rfl) (by kernel_rfl) (by kernel_rfl) (fun _ _ _ h => h) (Or.inl ⟨by rfl, ?_⟩) ?_
       rotate_left
       · intro w
         go_simp
         first | done | with_reducible rfl)
  simp only [Act.put, List.getElem_toArray, List.getElem_cons_succ, List.getElem_cons_zero, List.setIfInBounds_toArray, List.set_cons_zero, List.set_cons_succ]
  first
    | (refine wpAny_take (i := 9) (v := undef) rfl (by kernel_rfl) (by kernel_rfl) (by kernel_rfl) (fun _ _ _ h => h) (Or.inr ⟨by rfl, rfl⟩) ?_)
    | (refine wpAny_take (i := 9) (v := ?_) rfl (by kernel_rfl) (by kernel_rfl) (by kernel_rfl) (fun _ _ _ h => h) (Or.inl ⟨by rfl, ?_⟩) ?_
       rotate_left
       · intro w
         go_simp
         first | done | with_reducible rfl)
  simp only [Act.put, List.getElem_toArray, List.getElem_cons_succ, List.getElem_cons_zero, List.setIfInBounds_toArray, List.set_cons_zero, List.set_cons_succ]
  first
    | (refine wpAny_take (i := 10) (v := undef) rfl (by kernel_rfl) (by kernel_rfl) (by kernel_rfl) (fun _ _ _ h => h) (Or.inr ⟨by rfl, rfl⟩) ?_)
    | (refine wpAny_take (i := 10) (v := ?_) rfl (by kernel_rfl) (by kernel_rfl) (by kernel_rfl) (fun _ _ _ h => h) (Or.inl ⟨by rfl, ?_⟩) ?_
       rotate_left
       · intro w
         go_simp
         first | done | with_reducible rfl)
  simp only [Act.put, List.getElem_toArray, List.getElem_cons_succ, List.getElem_cons_zero, List.setIfInBounds_toArray, List.set_cons_zero, List.set_cons_succ]
  first
    | (refine wpAny_take (i := 11) (v := undef) rfl (by kernel_rfl) (by kernel_rfl) (by kernel_rfl) (fun _ _ _ h => h) (Or.inr ⟨by rfl, rfl⟩) ?_)
    | (refine wpAny_take (i := 11) (v := ?_) rfl (by kernel_rfl) (by kernel_rfl) (by kernel_rfl) (fun _ _ _ h => h) (Or.inl ⟨by rfl, ?_⟩) ?_
       rotate_left
       · intro w
         go_simp
         first | done | with_reducible rfl)
  simp only [Act.put, List.getElem_toArray, List.getElem_cons_succ, List.getElem_cons_zero, List.setIfInBounds_toArray, List.set_cons_zero, List.set_cons_succ]
  first
    | (refine wpAny_take (i := 12) (v := undef) rfl (by kernel_rfl) (by kernel_rfl) (by kernel_rfl) (fun _ _ _ h => h) (Or.inr ⟨by rfl, rfl⟩) ?_)
    | (refine wpAny_take (i := 12) (v := ?_) rfl (by kernel_rfl) (by kernel_rfl) (by kernel_rfl) (fun _ _ _ h => h) (Or.inl ⟨by rfl, ?_⟩) ?_
       rotate_left
       · intro w
         go_simp
         first | done | with_reducible rfl)
  simp only [Act.put, List.getElem_toArray, List.getElem_cons_succ, List.getElem_cons_zero, List.setIfInBounds_toArray, List.set_cons_zero, List.set_cons_succ]
  first
    | (refine wpAny_take (i := 13) (v := undef) rfl (by kernel_rfl) (by kernel_rfl) (by kernel_rfl) (fun _ _ _ h => h) (Or.inr ⟨by rfl, rfl⟩) ?_)
    | (refine wpAny_take (i := 13) (v := ?_) rfl (by kernel_rfl) (by kernel_rfl) (by kernel_rfl) (fun _ _ _ h => h) (Or.inl ⟨by rfl, ?_⟩) ?_
       rotate_left
       · intro w
         go_simp
         first | done | with_reducible rfl)
  simp only [Act.put, List.getElem_toArray, List.getElem_cons_succ, List.getElem_cons_zero, List.setIfInBounds_toArray, List.set_cons_zero, List.set_cons_succ]
  first
    | (refine wpAny_take (i := 14) (v := undef) rfl (by kernel_rfl) (by kernel_rfl) (by kernel_rfl) (fun _ _ _ h => h) (Or.inr ⟨by rfl, rfl⟩) ?_)
    | (refine wpAny_take (i := 14) (v := ?_) rfl (by kernel_rfl) (by kernel_rfl) (by kernel_rfl) (fun _ _ _ h => h) (Or.inl ⟨by rfl, ?_⟩) ?_
       rotate_left
       · intro w
         go_simp
         first | done | with_reducible rfl)
  simp only [Act.put, List.getElem_toArray, List.getElem_cons_succ, List.getElem_cons_zero, List.setIfInBounds_toArray, List.set_cons_zero, List.set_cons_succ]
  first
    | (refine wpAny_take (i := 15) (v := undef) rfl (by kernel_rfl) (by kernel_rfl) (by kernel_rfl) (fun _ _ _ h => h) (Or.inr ⟨by rfl, rfl⟩) ?_)
    | (refine wpAny_take (i := 15) (v := ?_) rfl (by kernel_rfl) (by kernel_rfl) (by kernel_rfl) (fun _ _ _ h => h) (Or.inl ⟨by rfl, ?_⟩) ?_
       rotate_left
       · intro w
         go_simp
         first | done | with_reducible rfl)
  simp only [Act.put, List.getElem_toArray, List.getElem_cons_succ, List.getElem_cons_zero, List.setIfInBounds_toArray, List.set_cons_zero, List.set_cons_succ]
  refine wpAny_done (by kernel_rfl) ?_ _
  go_wp2
  go_ret
  exact ⟨by simp, bthen HB2.out.drew hb3⟩

set_option maxRecDepth 100000 in
set_option maxHeartbeats 4000000 in
theorem addressTexts_some (k : Int) (x : Nat) (k' : Int) (x' : Nat) (hx : x < 18446744073709551616) (hx' : x' < 18446744073709551616) (hc : chkA k x = 0) (w : World) (hT : ATab w) : Calls Tryd.prog 5 #[adr k x, adr k' x'] w fun e w' => e = .returned (.bool true) ∧ Below w.heap.size w w' := by
  have HT := Lib.hid hT
  have C := Lib.hid (text_any k x hx)
  have C' := Lib.hid (text_any k' x' hx')
  have R := Lib.hid (rtext_any k x hx)
  have hn : (txtS k x).isEmpty = false := by have := txtS_some hc; cases h : txtS k x with
    | nil => exact absurd h this
    | cons => rfl
  have hq : (txtS k x = txtS k' x') = (k = k' ∧ x = x') := by
    apply propext
    constructor
    · intro h
      by_cases hc' : chkA k' x' = 0
      · exact txt_inj hc hc' h
      · rw [txtS_none hc'] at h
        exact absurd h (txtS_some hc)
    · rintro ⟨rfl, rfl⟩
      rfl
  have HQ := Lib.hid hq
  clear hT hc hq
  generalize txtS k x = l at *
  generalize txtS k' x' = l' at *
  by_cases hk : k = k'
  · by_cases hx : x = x'
    · have f1 : (k == k') = true := eqq_bool hk
      have f2 : ((x : Int) == x') = true := eqq_bool (by omega)
      have hl : l = l' := by rw [HQ.out]; exact ⟨hk, hx⟩
      clear hk hx
      subst hl
      go_enter Tryd.func5, Tryd.ntmps5
      go_wp2_with fail
      refine (C.out _ (HT.out.keep (al2 w _ _))).mono ?_
      rintro e w1 ⟨rfl, hb1⟩
      have hc1 := bfar (w.heap.size + 2) hb1 (by simp)
      have hz1 : w.heap.size + 2 ≤ w1.heap.size := (by have := hb1.size; simp at this; omega)
      have HB1 := Lib.hid (two hb1)
      clear hb1
      go_wp2_with fail
      refine (R.out _).mono ?_
      rintro e w2 ⟨rfl, hb2⟩
      have hc2 := bfar (w.heap.size + 2) hb2 hz1
      have hz2 : w.heap.size + 2 ≤ w2.heap.size := (by have := hb2.size; omega)
      have HB2 := Lib.hid (bthen HB1.out hb2)
      clear hb2
      go_wp2_with fail
      go_region_held3 (fun w' => w'.cell? ⟨w.heap.size, 0, none⟩ = some (.int .i64 k) ∧ w'.cell? ⟨w.heap.size, 1, none⟩ = some (.int .u64 (x : Int)) ∧ w'.cell? ⟨w.heap.size + 1, 0, none⟩ = some (.int .i64 k') ∧ w'.cell? ⟨w.heap.size + 1, 1, none⟩ = some (.int .u64 (x' : Int))) (go_keep)
        (first
          | (go_at_call 16; refine (lives08 _ ?_).mono ?_; exact (HT.out.keep (HB2.out.drew)); rintro e w3 ⟨rfl, hb3⟩; have hc3 := bfar (w.heap.size + 2) hb3 (by simp; omega); have hz3 : w.heap.size + 2 ≤ w3.heap.size := (by have := hb3.size; simp at this; omega))
          | (go_at_call 21; refine (C'.out _ ?_).mono ?_; exact (HT.out.keep (bthen HB2.out.drew hb3)); rintro e w4 ⟨rfl, hb4⟩; have hc4 := bfar (w.heap.size + 2) hb4 hz3))
      go_wp2
      go_ret
      exact ⟨by simp, bthen (bthen HB2.out.drew hb3) hb4⟩
    · have f1 : (k == k') = true := eqq_bool hk
      have f2 : ((x : Int) == x') = false := neq_bool (by omega)
      have hl : ¬ l = l' := by rw [HQ.out]; exact fun h => hx h.2
      clear hk hx
      go_enter Tryd.func5, Tryd.ntmps5
      go_wp2_with fail
      refine (C.out _ (HT.out.keep (al2 w _ _))).mono ?_
      rintro e w1 ⟨rfl, hb1⟩
      have hc1 := bfar (w.heap.size + 2) hb1 (by simp)
      have hz1 : w.heap.size + 2 ≤ w1.heap.size := (by have := hb1.size; simp at this; omega)
      have HB1 := Lib.hid (two hb1)
      clear hb1
      go_wp2_with fail
      refine (R.out _).mono ?_
      rintro e w2 ⟨rfl, hb2⟩
      have hc2 := bfar (w.heap.size + 2) hb2 hz1
      have hz2 : w.heap.size + 2 ≤ w2.heap.size := (by have := hb2.size; omega)
      have HB2 := Lib.hid (bthen HB1.out hb2)
      clear hb2
      go_wp2_with fail
      go_region_held3 (fun w' => w'.cell? ⟨w.heap.size, 0, none⟩ = some (.int .i64 k) ∧ w'.cell? ⟨w.heap.size, 1, none⟩ = some (.int .u64 (x : Int)) ∧ w'.cell? ⟨w.heap.size + 1, 0, none⟩ = some (.int .i64 k') ∧ w'.cell? ⟨w.heap.size + 1, 1, none⟩ = some (.int .u64 (x' : Int))) (go_keep)
        (first
          | (go_at_call 16; refine (lives08 _ ?_).mono ?_; exact (HT.out.keep (HB2.out.drew)); rintro e w3 ⟨rfl, hb3⟩; have hc3 := bfar (w.heap.size + 2) hb3 (by simp; omega); have hz3 : w.heap.size + 2 ≤ w3.heap.size := (by have := hb3.size; simp at this; omega))
          | (go_at_call 21; refine (C'.out _ ?_).mono ?_; exact (HT.out.keep (bthen HB2.out.drew hb3)); rintro e w4 ⟨rfl, hb4⟩; have hc4 := bfar (w.heap.size + 2) hb4 hz3))
      go_wp2
      go_ret
      exact ⟨by simp [hl], bthen (bthen HB2.out.drew hb3) hb4⟩
  · have f1 : (k == k') = false := neq_bool hk
    have hl : ¬ l = l' := by rw [HQ.out]; exact fun h => hk h.1
    clear hk
    go_enter Tryd.func5, Tryd.ntmps5
    go_wp2_with fail
    refine (C.out _ (HT.out.keep (al2 w _ _))).mono ?_
    rintro e w1 ⟨rfl, hb1⟩
    have hc1 := bfar (w.heap.size + 2) hb1 (by simp)
    have hz1 : w.heap.size + 2 ≤ w1.heap.size := (by have := hb1.size; simp at this; omega)
    have HB1 := Lib.hid (two hb1)
    clear hb1
    go_wp2_with fail
    refine (R.out _).mono ?_
    rintro e w2 ⟨rfl, hb2⟩
    have hc2 := bfar (w.heap.size + 2) hb2 hz1
    have hz2 : w.heap.size + 2 ≤ w2.heap.size := (by have := hb2.size; omega)
    have HB2 := Lib.hid (bthen HB1.out hb2)
    clear hb2
    go_wp2_with fail
    go_region_held3 (fun w' => w'.cell? ⟨w.heap.size, 0, none⟩ = some (.int .i64 k) ∧ w'.cell? ⟨w.heap.size, 1, none⟩ = some (.int .u64 (x : Int)) ∧ w'.cell? ⟨w.heap.size + 1, 0, none⟩ = some (.int .i64 k') ∧ w'.cell? ⟨w.heap.size + 1, 1, none⟩ = some (.int .u64 (x' : Int))) (go_keep)
      (first
        | (go_at_call 16; refine (lives08 _ ?_).mono ?_; exact (HT.out.keep (HB2.out.drew)); rintro e w3 ⟨rfl, hb3⟩; have hc3 := bfar (w.heap.size + 2) hb3 (by simp; omega); have hz3 : w.heap.size + 2 ≤ w3.heap.size := (by have := hb3.size; simp at this; omega))
        | (go_at_call 21; refine (C'.out _ ?_).mono ?_; exact (HT.out.keep (bthen HB2.out.drew hb3)); rintro e w4 ⟨rfl, hb4⟩; have hc4 := bfar (w.heap.size + 2) hb4 hz3))
    go_wp2
    go_ret
    exact ⟨by simp [hl], bthen (bthen HB2.out.drew hb3) hb4⟩
theorem addressTexts_walk (k : Int) (x : Nat) (k' : Int) (x' : Nat) (hx : x < 18446744073709551616) (hx' : x' < 18446744073709551616) (w : World) (hT : ATab w) : Calls Tryd.prog 5 #[adr k x, adr k' x'] w fun e w' => e = .returned (.bool true) ∧ Below w.heap.size w w' := by
  by_cases hc : chkA k x = 0
  · exact addressTexts_some k x k' x' hx hx' hc w hT
  · exact addressTexts_none k x k' x' hc w hT
end Go.Proofs.YtpomobeogkfmfaaDoor
