/- The walks of the laws TransportChecks, TransportEncodes, TransportDecodes, TransportBack: for every argument they return true. No condition. -/
import Derived.Test.YtkpjinkkjbljkaaLw50a
import Derived.Test.YtkpjinkkjbljkaaTrP
import Derived.Test.YtkpjinkkjbljkaaTr15
namespace Go.Proofs.Ytkpjinkkjbljkaa
open Go.RowKit

set_option maxRecDepth 100000 in
set_option maxHeartbeats 4000000 in
theorem transportChecks_walk (p : Low) (A : Option Addr) (n c : Nat) (m : Int) (w : World) : Calls Try.prog 3 #[lowV p (.slice A n c), .int .i64 m] w fun e w' => e = .returned (.bool true) ∧ Below w.heap.size w w' := by
  have C0 := Lib.hid (small_any p A n c)
  have C1 := Lib.hid (tcheck_any p A n c)
  have C2 := Lib.hid (rtcheck_any p A n c)
  have C3 := Lib.hid (count_any m)
  have C4 := Lib.hid (rcount_any m)
  generalize chkL p n = cc at *
  generalize cntN m = cm at *
  obtain ⟨ct, s, a, z, i, l, o, b, f⟩ := p
  by_cases h100 : n ≤ 100
  · rw [decide_eq_true h100] at C0
    go_enter Try.func3, Try.ntmps3
    go_wp2_with fail
    have hB := low_new w ⟨ct, s, a, z, i, l, o, b, f⟩ (.slice A n c) 25
    have hA := al1 w (.cells #[.bool ct, .bool s, .bool a, .int .i64 z, .int .i64 i, .int .i64 l, .int .i64 o, .int .u32 (b : Int), .bool f, .slice A n c] 25)
    dsimp only at hB
    generalize w.alloc (.cells #[.bool ct, .bool s, .bool a, .int .i64 z, .int .i64 i, .int .i64 l, .int .i64 o, .int .u32 (b : Int), .bool f, .slice A n c] 25) = W at *
    obtain ⟨k0, k1, k2, k3, k4, k5, k6, k7, k8, k9⟩ := low_box hB
    dsimp only at k0 k1 k2 k3 k4 k5 k6 k7 k8
    have z0 := hB.lt
    have HA := Lib.hid hA
    clear hA hB
    go_region_held3 (fun w' => w'.cell? ⟨w.heap.size, 0, none⟩ = some (.bool ct) ∧ w'.cell? ⟨w.heap.size, 1, none⟩ = some (.bool s) ∧ w'.cell? ⟨w.heap.size, 2, none⟩ = some (.bool a) ∧ w'.cell? ⟨w.heap.size, 3, none⟩ = some (.int .i64 z) ∧ w'.cell? ⟨w.heap.size, 4, none⟩ = some (.int .i64 i) ∧ w'.cell? ⟨w.heap.size, 5, none⟩ = some (.int .i64 l) ∧ w'.cell? ⟨w.heap.size, 6, none⟩ = some (.int .i64 o) ∧ w'.cell? ⟨w.heap.size, 7, none⟩ = some (.int .u32 (b : Int)) ∧ w'.cell? ⟨w.heap.size, 8, none⟩ = some (.bool f) ∧ w'.cell? ⟨w.heap.size, 9, none⟩ = some (.slice A n c)) (go_keep)
      (first
        | (go_at_call 10; refine (lives_any _).mono ?_; rintro e w1 ⟨rfl, hb1'⟩
           have hb1 : Below W.heap.size W w1 := ((Below.refl _ _).drew).trans hb1'
           have hc1 := bfar W.heap.size hb1 (Nat.le_refl _)
           have hz1 := hb1.size)
        | (go_at_call 11; refine (C0.out _).mono ?_; rintro e w2 ⟨rfl, hb2⟩
           have hc2 := bfar W.heap.size hb2 hz1
           have hz2 : W.heap.size ≤ w2.heap.size := Nat.le_trans hz1 hb2.size)
        | (go_at_call 12; refine (C1.out _).mono ?_; rintro e w3 ⟨rfl, hb3⟩
           have hc3 := bfar W.heap.size hb3 hz2
           have hz3 : W.heap.size ≤ w3.heap.size := Nat.le_trans hz2 hb3.size)
        | (go_at_call 13; refine (C2.out _).mono ?_; rintro e w4 ⟨rfl, hb4⟩
           have hc4 := bfar W.heap.size hb4 hz3
           have hz4 : W.heap.size ≤ w4.heap.size := Nat.le_trans hz3 hb4.size)
        | (go_at_call 14; refine (C3.out _).mono ?_; rintro e w5 ⟨rfl, rfl⟩)
        | (go_at_call 15; refine (C4.out _).mono ?_; rintro e w6 ⟨rfl, rfl⟩))
    go_wp2
    go_ret
    exact ⟨by simp, HA.out.trans (((hb1.trans (hb2.mono hz1)).trans ((hb3.mono hz2).trans (hb4.mono hz3))).mono HA.out.size)⟩
  · rw [decide_eq_false h100] at C0
    go_enter Try.func3, Try.ntmps3
    go_wp2_with fail
    have hB := low_new w ⟨ct, s, a, z, i, l, o, b, f⟩ (.slice A n c) 25
    have hA := al1 w (.cells #[.bool ct, .bool s, .bool a, .int .i64 z, .int .i64 i, .int .i64 l, .int .i64 o, .int .u32 (b : Int), .bool f, .slice A n c] 25)
    dsimp only at hB
    generalize w.alloc (.cells #[.bool ct, .bool s, .bool a, .int .i64 z, .int .i64 i, .int .i64 l, .int .i64 o, .int .u32 (b : Int), .bool f, .slice A n c] 25) = W at *
    obtain ⟨k0, k1, k2, k3, k4, k5, k6, k7, k8, k9⟩ := low_box hB
    dsimp only at k0 k1 k2 k3 k4 k5 k6 k7 k8
    have z0 := hB.lt
    have HA := Lib.hid hA
    clear hA hB
    refine wp_region_noPanic ?_
    refine wp_region_held_drew (S := (fun w' => w'.cell? ⟨w.heap.size, 0, none⟩ = some (.bool ct) ∧ w'.cell? ⟨w.heap.size, 1, none⟩ = some (.bool s) ∧ w'.cell? ⟨w.heap.size, 2, none⟩ = some (.bool a) ∧ w'.cell? ⟨w.heap.size, 3, none⟩ = some (.int .i64 z) ∧ w'.cell? ⟨w.heap.size, 4, none⟩ = some (.int .i64 i) ∧ w'.cell? ⟨w.heap.size, 5, none⟩ = some (.int .i64 l) ∧ w'.cell? ⟨w.heap.size, 6, none⟩ = some (.int .i64 o) ∧ w'.cell? ⟨w.heap.size, 7, none⟩ = some (.int .u32 (b : Int)) ∧ w'.cell? ⟨w.heap.size, 8, none⟩ = some (.bool f) ∧ w'.cell? ⟨w.heap.size, 9, none⟩ = some (.slice A n c))) (by kernel_rfl) (by go_keep) (fun hHeld => ?_)
    refine wpAnyH_ready (rs := [0]) (by kernel_rfl) (by simp) ?_
    refine AllReadyH.cons rfl (fun K hK => ?_) AllReadyH.nil
    go_simp
    refine (lives_any _).mono ?_
    rintro e w1 ⟨rfl, hb1'⟩
    have hb1 : Below W.heap.size W w1 := ((Below.refl _ _).drew).trans hb1'
    have hc1 := bfar W.heap.size hb1 (Nat.le_refl _)
    have hz1 := hb1.size
    first | (refine hK.out _ _ ?_ (fun hHeld => ?_)) | (go_wp2_with fail; refine hK.out _ _ ?_ (fun hHeld => ?_))
    · go_keep
    clear hK K
    try simp only [Act.put, List.getElem_toArray, List.getElem_cons_succ, List.getElem_cons_zero, List.setIfInBounds_toArray, List.set_cons_zero, List.set_cons_succ]
    refine wpAnyH_take (i := 1) (v := ?_) rfl (by kernel_rfl) (by kernel_rfl) (by kernel_rfl) (fun _ _ _ h => h) (Or.inl ⟨by rfl, ?_⟩) (by assumption) ?_
    rotate_left
    · intro w hSw
      (try dsimp only at hSw)
      go_simp
      first | done | with_reducible rfl
    simp only [Act.put, List.getElem_toArray, List.getElem_cons_succ, List.getElem_cons_zero, List.setIfInBounds_toArray, List.set_cons_zero, List.set_cons_succ]
    first
      | (refine wpAnyH_take (i := 2) (v := undef) rfl (by kernel_rfl) (by kernel_rfl) (by kernel_rfl) (fun _ _ _ h => h) (Or.inr ⟨by rfl, rfl⟩) (by assumption) ?_)
      | (refine wpAnyH_take (i := 2) (v := ?_) rfl (by kernel_rfl) (by kernel_rfl) (by kernel_rfl) (fun _ _ _ h => h) (Or.inl ⟨by rfl, ?_⟩) (by assumption) ?_
         rotate_left
         · intro w hSw
           (try dsimp only at hSw)
           go_simp
           first | done | with_reducible rfl)
      | fail
    simp only [Act.put, List.getElem_toArray, List.getElem_cons_succ, List.getElem_cons_zero, List.setIfInBounds_toArray, List.set_cons_zero, List.set_cons_succ]
    refine wpAnyH_ready (rs := [3]) (by kernel_rfl) (by simp) ?_
    refine AllReadyH.cons rfl (fun K hK => ?_) AllReadyH.nil
    go_simp
    refine (C0.out _).mono ?_
    rintro e w2 ⟨rfl, hb2⟩
    have hc2 := bfar W.heap.size hb2 hz1
    have hz2 : W.heap.size ≤ w2.heap.size := Nat.le_trans hz1 hb2.size
    first | (refine hK.out _ _ ?_ (fun hHeld => ?_)) | (go_wp2_with fail; refine hK.out _ _ ?_ (fun hHeld => ?_))
    · go_keep
    clear hK K
    try simp only [Act.put, List.getElem_toArray, List.getElem_cons_succ, List.getElem_cons_zero, List.setIfInBounds_toArray, List.set_cons_zero, List.set_cons_succ]
    first
      | (refine wpAnyH_take (i := 4) (v := undef) rfl (by kernel_rfl) (by kernel_rfl) (by kernel_rfl) (fun _ _ _ h => h) (Or.inr ⟨by rfl, rfl⟩) (by assumption) ?_)
      | (refine wpAnyH_take (i := 4) (v := ?_) rfl (by kernel_rfl) (by kernel_rfl) (by kernel_rfl) (fun _ _ _ h => h) (Or.inl ⟨by rfl, ?_⟩) (by assumption) ?_
         rotate_left
         · intro w hSw
           (try dsimp only at hSw)
           go_simp
           first | done | with_reducible rfl)
      | fail
    simp only [Act.put, List.getElem_toArray, List.getElem_cons_succ, List.getElem_cons_zero, List.setIfInBounds_toArray, List.set_cons_zero, List.set_cons_succ]
    first
      | (refine wpAnyH_take (i := 5) (v := undef) rfl (by kernel_rfl) (by kernel_rfl) (by kernel_rfl) (fun _ _ _ h => h) (Or.inr ⟨by rfl, rfl⟩) (by assumption) ?_)
      | (refine wpAnyH_take (i := 5) (v := ?_) rfl (by kernel_rfl) (by kernel_rfl) (by kernel_rfl) (fun _ _ _ h => h) (Or.inl ⟨by rfl, ?_⟩) (by assumption) ?_
         rotate_left
         · intro w hSw
           (try dsimp only at hSw)
           go_simp
           first | done | with_reducible rfl)
      | fail
    simp only [Act.put, List.getElem_toArray, List.getElem_cons_succ, List.getElem_cons_zero, List.setIfInBounds_toArray, List.set_cons_zero, List.set_cons_succ]
    refine wpAnyH_take (i := 6) (v := undef) rfl (by kernel_rfl) (by kernel_rfl) (by kernel_rfl) (fun _ _ _ h => h) (Or.inr ⟨by rfl, rfl⟩) (by assumption) ?_
    simp only [Act.put, List.getElem_toArray, List.getElem_cons_succ, List.getElem_cons_zero, List.setIfInBounds_toArray, List.set_cons_zero, List.set_cons_succ]
    refine wpAnyH_take (i := 7) (v := undef) rfl (by kernel_rfl) (by kernel_rfl) (by kernel_rfl) (fun _ _ _ h => h) (Or.inr ⟨by rfl, rfl⟩) (by assumption) ?_
    simp only [Act.put, List.getElem_toArray, List.getElem_cons_succ, List.getElem_cons_zero, List.setIfInBounds_toArray, List.set_cons_zero, List.set_cons_succ]
    refine wpAnyH_take (i := 8) (v := undef) rfl (by kernel_rfl) (by kernel_rfl) (by kernel_rfl) (fun _ _ _ h => h) (Or.inr ⟨by rfl, rfl⟩) (by assumption) ?_
    simp only [Act.put, List.getElem_toArray, List.getElem_cons_succ, List.getElem_cons_zero, List.setIfInBounds_toArray, List.set_cons_zero, List.set_cons_succ]
    refine wpAnyH_take (i := 9) (v := undef) rfl (by kernel_rfl) (by kernel_rfl) (by kernel_rfl) (fun _ _ _ h => h) (Or.inr ⟨by rfl, rfl⟩) (by assumption) ?_
    simp only [Act.put, List.getElem_toArray, List.getElem_cons_succ, List.getElem_cons_zero, List.setIfInBounds_toArray, List.set_cons_zero, List.set_cons_succ]
    refine wpAnyH_take (i := 10) (v := undef) rfl (by kernel_rfl) (by kernel_rfl) (by kernel_rfl) (fun _ _ _ h => h) (Or.inr ⟨by rfl, rfl⟩) (by assumption) ?_
    simp only [Act.put, List.getElem_toArray, List.getElem_cons_succ, List.getElem_cons_zero, List.setIfInBounds_toArray, List.set_cons_zero, List.set_cons_succ]
    first
      | (refine wpAnyH_take (i := 11) (v := undef) rfl (by kernel_rfl) (by kernel_rfl) (by kernel_rfl) (fun _ _ _ h => h) (Or.inr ⟨by rfl, rfl⟩) (by assumption) ?_)
      | (refine wpAnyH_take (i := 11) (v := ?_) rfl (by kernel_rfl) (by kernel_rfl) (by kernel_rfl) (fun _ _ _ h => h) (Or.inl ⟨by rfl, ?_⟩) (by assumption) ?_
         rotate_left
         · intro w hSw
           (try dsimp only at hSw)
           go_simp
           first | done | with_reducible rfl)
      | fail
    simp only [Act.put, List.getElem_toArray, List.getElem_cons_succ, List.getElem_cons_zero, List.setIfInBounds_toArray, List.set_cons_zero, List.set_cons_succ]
    refine wpAnyH_take (i := 12) (v := ?_) rfl (by kernel_rfl) (by kernel_rfl) (by kernel_rfl) (fun _ _ _ h => h) (Or.inl ⟨by rfl, ?_⟩) (by assumption) ?_
    rotate_left
    · intro w hSw
      (try dsimp only at hSw)
      go_simp
      first | done | with_reducible rfl
    simp only [Act.put, List.getElem_toArray, List.getElem_cons_succ, List.getElem_cons_zero, List.setIfInBounds_toArray, List.set_cons_zero, List.set_cons_succ]
    refine wpAnyH_take (i := 13) (v := ?_) rfl (by kernel_rfl) (by kernel_rfl) (by kernel_rfl) (fun _ _ _ h => h) (Or.inl ⟨by rfl, ?_⟩) (by assumption) ?_
    rotate_left
    · intro w hSw
      (try dsimp only at hSw)
      go_simp
      first | done | with_reducible rfl
    simp only [Act.put, List.getElem_toArray, List.getElem_cons_succ, List.getElem_cons_zero, List.setIfInBounds_toArray, List.set_cons_zero, List.set_cons_succ]
    first
      | (refine wpAnyH_take (i := 14) (v := undef) rfl (by kernel_rfl) (by kernel_rfl) (by kernel_rfl) (fun _ _ _ h => h) (Or.inr ⟨by rfl, rfl⟩) (by assumption) ?_)
      | (refine wpAnyH_take (i := 14) (v := ?_) rfl (by kernel_rfl) (by kernel_rfl) (by kernel_rfl) (fun _ _ _ h => h) (Or.inl ⟨by rfl, ?_⟩) (by assumption) ?_
         rotate_left
         · intro w hSw
           (try dsimp only at hSw)
           go_simp
           first | done | with_reducible rfl)
      | fail
    simp only [Act.put, List.getElem_toArray, List.getElem_cons_succ, List.getElem_cons_zero, List.setIfInBounds_toArray, List.set_cons_zero, List.set_cons_succ]
    first
      | (refine wpAnyH_take (i := 16) (v := undef) rfl (by kernel_rfl) (by kernel_rfl) (by kernel_rfl) (fun _ _ _ h => h) (Or.inr ⟨by rfl, rfl⟩) (by assumption) ?_)
      | (refine wpAnyH_take (i := 16) (v := ?_) rfl (by kernel_rfl) (by kernel_rfl) (by kernel_rfl) (fun _ _ _ h => h) (Or.inl ⟨by rfl, ?_⟩) (by assumption) ?_
         rotate_left
         · intro w hSw
           (try dsimp only at hSw)
           go_simp
           first | done | with_reducible rfl)
      | fail
    simp only [Act.put, List.getElem_toArray, List.getElem_cons_succ, List.getElem_cons_zero, List.setIfInBounds_toArray, List.set_cons_zero, List.set_cons_succ]
    refine wpAnyH_ready (rs := [15]) (by kernel_rfl) (by simp) ?_
    refine AllReadyH.cons rfl (fun K hK => ?_) AllReadyH.nil
    go_simp
    refine (C3.out _).mono ?_
    rintro e w5 ⟨rfl, rfl⟩
    first | (refine hK.out _ _ ?_ (fun hHeld => ?_)) | (go_wp2_with fail; refine hK.out _ _ ?_ (fun hHeld => ?_))
    · go_keep
    clear hK K
    try simp only [Act.put, List.getElem_toArray, List.getElem_cons_succ, List.getElem_cons_zero, List.setIfInBounds_toArray, List.set_cons_zero, List.set_cons_succ]
    refine wpAnyH_ready (rs := [17]) (by kernel_rfl) (by simp) ?_
    refine AllReadyH.cons rfl (fun K hK => ?_) AllReadyH.nil
    go_simp
    refine (C4.out _).mono ?_
    rintro e w6 ⟨rfl, rfl⟩
    first | (refine hK.out _ _ ?_ (fun hHeld => ?_)) | (go_wp2_with fail; refine hK.out _ _ ?_ (fun hHeld => ?_))
    · go_keep
    clear hK K
    try simp only [Act.put, List.getElem_toArray, List.getElem_cons_succ, List.getElem_cons_zero, List.setIfInBounds_toArray, List.set_cons_zero, List.set_cons_succ]
    first
      | (refine wpAnyH_take (i := 18) (v := undef) rfl (by kernel_rfl) (by kernel_rfl) (by kernel_rfl) (fun _ _ _ h => h) (Or.inr ⟨by rfl, rfl⟩) (by assumption) ?_)
      | (refine wpAnyH_take (i := 18) (v := ?_) rfl (by kernel_rfl) (by kernel_rfl) (by kernel_rfl) (fun _ _ _ h => h) (Or.inl ⟨by rfl, ?_⟩) (by assumption) ?_
         rotate_left
         · intro w hSw
           (try dsimp only at hSw)
           go_simp
           first | done | with_reducible rfl)
      | fail
    simp only [Act.put, List.getElem_toArray, List.getElem_cons_succ, List.getElem_cons_zero, List.setIfInBounds_toArray, List.set_cons_zero, List.set_cons_succ]
    refine wpAnyH_take (i := 19) (v := ?_) rfl (by kernel_rfl) (by kernel_rfl) (by kernel_rfl) (fun _ _ _ h => h) (Or.inl ⟨by rfl, ?_⟩) (by assumption) ?_
    rotate_left
    · intro w hSw
      (try dsimp only at hSw)
      go_simp
      first | done | with_reducible rfl
    simp only [Act.put, List.getElem_toArray, List.getElem_cons_succ, List.getElem_cons_zero, List.setIfInBounds_toArray, List.set_cons_zero, List.set_cons_succ]
    refine wpAnyH_take (i := 20) (v := ?_) rfl (by kernel_rfl) (by kernel_rfl) (by kernel_rfl) (fun _ _ _ h => h) (Or.inl ⟨by rfl, ?_⟩) (by assumption) ?_
    rotate_left
    · intro w hSw
      (try dsimp only at hSw)
      go_simp
      first | done | with_reducible rfl
    simp only [Act.put, List.getElem_toArray, List.getElem_cons_succ, List.getElem_cons_zero, List.setIfInBounds_toArray, List.set_cons_zero, List.set_cons_succ]
    refine wpAnyH_done (by kernel_rfl) ?_ _
    refine NoPanic.normal ?_
    go_wp2
    go_ret
    exact ⟨by simp, HA.out.trans ((hb1.trans (hb2.mono hz1)).mono HA.out.size)⟩

theorem LEncPost.bytes {w w' : World} {p : Low} {l : List UInt8} {e : Ending} (h : LEncPost w p l e w') : Below w.heap.size w w' ∧ ∃ v, e = .returned (.tuple #[v, .int .i64 (chkL p l.length)]) ∧ BS w' w'.heap.size v (if chkL p l.length = 0 then encL p l else []) := by
  obtain ⟨hb, h1, h2⟩ := h
  refine ⟨hb, ?_⟩
  by_cases hc : chkL p l.length = 0
  · obtain ⟨v, rfl, hv⟩ := h1 hc
    rw [if_pos hc]
    exact ⟨v, by rw [hc], BS.of_own rfl hv⟩
  · rw [if_neg hc]
    exact ⟨_, h2 hc, BS.nil _ _⟩
theorem bs_form {w : World} {B : Nat} {v : Value} {l : List UInt8} (h : BS w B v l) : ∃ A c, v = .slice A l.length c := by
  obtain ⟨A, c, rfl, _⟩ := h
  exact ⟨A, c, rfl⟩
set_option maxRecDepth 100000 in
set_option maxHeartbeats 4000000 in
theorem transportEncodes_walk (p : Low) (hp : p.blk < 4294967296) (bl : List UInt8) (v : Value) (w : World) (hb : BS w w.heap.size v bl) : Calls Try.prog 4 #[lowV p v] w fun e w' => e = .returned (.bool true) ∧ Below w.heap.size w w' := by
  obtain ⟨A, c, rfl⟩ := bs_form hb
  have C0 := Lib.hid (small_any p A bl.length c)
  have C1 := Lib.hid (fun W (hW : Below w.heap.size w W) => (tencode_any p hp bl (.slice A bl.length c) W (hb.on hW)).mono fun e w' h => h.bytes)
  have C2 := Lib.hid (fun W (hW : Below w.heap.size w W) => (rtencode_any p hp bl (.slice A bl.length c) W (hb.on hW)).mono fun e w' h => h.bytes)
  clear hb hp
  generalize (if chkL p bl.length = 0 then encL p bl else []) = ys at *
  generalize chkL p bl.length = cc at *
  generalize bl.length = n at *
  obtain ⟨ct, s, a, z, i, l, o, b, f⟩ := p
  by_cases h100 : n ≤ 100
  · rw [decide_eq_true h100] at C0
    go_enter Try.func4, Try.ntmps4
    go_wp2_with fail
    refine (C0.out _).mono ?_
    rintro e w1 ⟨rfl, hb1⟩
    have hB := (low_new w ⟨ct, s, a, z, i, l, o, b, f⟩ (.slice A n c) 25).on hb1
    have HA1 := Lib.hid (one hb1)
    have HB := Lib.hid hB
    obtain ⟨k0, k1, k2, k3, k4, k5, k6, k7, k8, k9⟩ := low_box hB
    dsimp only at k0 k1 k2 k3 k4 k5 k6 k7 k8
    clear hB hb1
    go_wp2_with fail
    refine (C1.out _ HA1.out).mono ?_
    rintro e w2 ⟨hb2, u, rfl, hu⟩
    obtain ⟨A2, c2, rfl⟩ := bs_form hu
    have HA2 := Lib.hid (bthen HA1.out hb2)
    have HU2 := Lib.hid hu
    have hB := HB.out.on hb2
    clear k0 k1 k2 k3 k4 k5 k6 k7 k8 k9
    obtain ⟨k0, k1, k2, k3, k4, k5, k6, k7, k8, k9⟩ := low_box hB
    dsimp only at k0 k1 k2 k3 k4 k5 k6 k7 k8
    clear hB hb2 hu
    go_wp2_with fail
    refine (C2.out _ HA2.out).mono ?_
    rintro e w3 ⟨hb3, u', rfl, hu'⟩
    obtain ⟨A3, c3, rfl⟩ := bs_form hu'
    have HA3 := Lib.hid (bthen HA2.out hb3)
    have HU3 := Lib.hid (HU2.out.on hb3)
    have HV3 := Lib.hid hu'
    clear k0 k1 k2 k3 k4 k5 k6 k7 k8 k9 hb3 hu'
    go_wp2_with fail
    refine (lives_any _).mono ?_
    rintro e w4 ⟨rfl, hb4⟩
    have HA4 := Lib.hid (bthen HA3.out hb4)
    have HU4 := Lib.hid (HU3.out.on hb4)
    have HV4 := Lib.hid (HV3.out.on hb4)
    clear hb4
    go_wp2_with fail
    refine (same_any _ _ _ _ _ HU4.out HV4.out).mono ?_
    rintro e w5 ⟨rfl, rfl⟩
    rw [decide_eq_true rfl]
    go_wp2
    go_ret
    exact ⟨rfl, HA4.out⟩
  · rw [decide_eq_false h100] at C0
    go_enter Try.func4, Try.ntmps4
    go_wp2_with fail
    refine (C0.out _).mono ?_
    rintro e w1 ⟨rfl, hb1⟩
    have HA1 := Lib.hid (one hb1)
    clear hb1
    go_wp2_with fail
    refine (lives_any _).mono ?_
    rintro e w4 ⟨rfl, hb4⟩
    have HA4 := Lib.hid (bthen HA1.out hb4)
    clear hb4
    go_wp2
    go_ret
    exact ⟨rfl, HA4.out⟩

set_option maxRecDepth 100000 in
set_option maxHeartbeats 4000000 in
theorem transportDecodes_walk (ct : Bool) (bl : List UInt8) (v : Value) (w : World) (hb : BS w w.heap.size v bl) : Calls Try.prog 5 #[.bool ct, v] w fun e w' => e = .returned (.bool true) ∧ Below w.heap.size w w' := by
  obtain ⟨A, c, rfl⟩ := bs_form hb
  by_cases h100 : bl.length ≤ 100
  · have C1 := Lib.hid (fun W (hW : Below w.heap.size w W) => tdecode_any ct bl (by omega) (.slice A bl.length c) W (hb.on hW))
    have C2 := Lib.hid (fun W (hW : Below w.heap.size w W) => rtdecode_any ct bl (by omega) (.slice A bl.length c) W (hb.on hW))
    have HX := Lib.hid (show ldE ct bl = 0 → chkL (ldL ct bl) (ldB ct bl).length = 0 ∧ encL (ldL ct bl) (ldB ct bl) = bl ∧ (ldL ct bl).ctl = ct ∧ (ldL ct bl).blk < 4294967296 from enc_dec_low)
    have HBL := Lib.hid hb
    unfold LDecPost at C1
    unfold RDecPost at C2
    generalize ldE ct bl = cc at *
    generalize ldL ct bl = q at *
    generalize ldB ct bl = k at *
    clear hb
    obtain ⟨q0, q1, q2, q3, q4, q5, q6, q7, q8⟩ := q
    have h100' : decide (100 < bl.length) = false := decide_eq_false (by omega)
    go_enter Try.func5, Try.ntmps5
    go_wp2_with fail
    refine (C1.out _ (Below.refl _ _)).mono ?_
    rintro e w1 ⟨hb1, A1, c1, rfl, hu⟩
    have HA1 := Lib.hid hb1
    have HU1 := Lib.hid (BS.of_own rfl hu)
    have HB1 := Lib.hid (low_new w1 ⟨q0, q1, q2, q3, q4, q5, q6, q7, q8⟩ (.slice A1 k.length c1) 25)
    clear hb1 hu
    go_wp2_with fail
    refine (C2.out _ (HA1.out.alloc HA1.out.size _)).mono ?_
    rintro e w2 ⟨hb2, A2, c2, rfl, hu2⟩
    have HA2 := Lib.hid (bthen (HA1.out.alloc HA1.out.size _) hb2)
    have HU2 := Lib.hid ((HU1.out.on (al1 _ _)).on hb2)
    have HV2 := Lib.hid hu2
    have hB := (HB1.out.on hb2)
    have HB2 := Lib.hid hB
    obtain ⟨k0, k1, k2, k3, k4, k5, k6, k7, k8, k9⟩ := low_box hB
    dsimp only at k0 k1 k2 k3 k4 k5 k6 k7 k8
    have z1 := hB.lt
    clear hb2 hu2 hB
    go_wp2_with fail
    refine (samelow_any ⟨q0, q1, q2, q3, q4, q5, q6, q7, q8⟩ ⟨q0, q1, q2, q3, q4, q5, q6, q7, q8⟩ _ _ k k _ (HU2.out.on (al1 _ _)) (HV2.out.on (al1 _ _))).mono ?_
    rintro e w3 ⟨rfl, hb3⟩
    rw [decide_eq_true ⟨rfl, rfl⟩]
    have HA3 := Lib.hid (bthen (HA2.out.alloc HA2.out.size _) hb3)
    have HU3 := Lib.hid ((HU2.out.on (al1 _ _)).on hb3)
    have HB3 := Lib.hid ((HB2.out.alloc _).on hb3)
    clear hb3 k0 k1 k2 k3 k4 k5 k6 k7 k8 k9
    by_cases hcc : cc = 0
    · subst hcc
      obtain ⟨x1, x2, x3, x4⟩ := HX.out rfl
      have C3 := Lib.hid (fun W (hW : Below w3.heap.size w3 W) => (tencode_any ⟨q0, q1, q2, q3, q4, q5, q6, q7, q8⟩ x4 k (.slice A1 k.length c1) W (HU3.out.on hW)).mono fun e w' h => h.bytes)
      rw [if_pos x1, x2, x1] at C3
      subst x3
      clear x1 x2 x4
      obtain ⟨k0, k1, k2, k3, k4, k5, k6, k7, k8, k9⟩ := low_box HB3.out
      dsimp only at k0 k1 k2 k3 k4 k5 k6 k7 k8
      go_wp2_with fail
      refine (C3.out _ (Below.refl _ _)).mono ?_
      rintro e w4 ⟨hb4, u4, rfl, hu4⟩
      obtain ⟨A4, c4, rfl⟩ := bs_form hu4
      have HA4 := Lib.hid (bthen HA3.out hb4)
      have HB4 := Lib.hid (HB3.out.on hb4)
      have HU4 := Lib.hid hu4
      clear hb4 hu4 k0 k1 k2 k3 k4 k5 k6 k7 k8 k9
      go_wp2_with fail
      refine (lives_any _).mono ?_
      rintro e w5 ⟨rfl, hb5⟩
      have HA5 := Lib.hid (bthen HA4.out hb5)
      have HU5 := Lib.hid (HU4.out.on hb5)
      have k0 := (HB4.out.on hb5).cell (j := 0) rfl
      have z5 := (HB4.out.on hb5).lt
      dsimp only at k0
      clear hb5
      go_wp2_with fail
      refine (same_any _ _ _ _ _ HU5.out (HBL.out.on HA5.out)).mono ?_
      rintro e w6 ⟨rfl, rfl⟩
      rw [decide_eq_true rfl]
      go_wp2
      all_goals
        go_ret
        exact ⟨by simp, HA5.out⟩
    · have hcc' := ne_bool hcc
      clear hcc
      go_wp2_with fail
      refine (lives_any _).mono ?_
      rintro e w5 ⟨rfl, hb5⟩
      have HA5 := Lib.hid (bthen HA3.out hb5)
      clear hb5
      go_wp2
      go_ret
      exact ⟨rfl, HA5.out⟩
  · clear hb
    generalize bl.length = n at *
    have h100' : decide (100 < n) = true := decide_eq_true (by omega)
    go_enter Try.func5, Try.ntmps5
    go_wp2_with fail
    refine (lives_any _).mono ?_
    rintro e w5 ⟨rfl, hb5⟩
    have HA5 := Lib.hid hb5
    clear hb5
    go_wp2
    go_ret
    exact ⟨rfl, HA5.out⟩

set_option maxRecDepth 100000 in
set_option maxHeartbeats 4000000 in
theorem transportBack_walk (p : Low) (hp : p.blk < 4294967296) (bl : List UInt8) (v : Value) (w : World) (hb : BS w w.heap.size v bl) : Calls Try.prog 6 #[lowV p v] w fun e w' => e = .returned (.bool true) ∧ Below w.heap.size w w' := by
  obtain ⟨A, c, rfl⟩ := bs_form hb
  have C0 := Lib.hid (small_any p A bl.length c)
  have C1 := Lib.hid (fun W (hW : Below w.heap.size w W) => (tencode_any p hp bl (.slice A bl.length c) W (hb.on hW)).mono fun e w' h => h.bytes)
  have C2 := Lib.hid (tcheck_any p A bl.length c)
  have HX := Lib.hid (show chkL p bl.length = 0 → ldE p.ctl (encL p bl) = 0 ∧ ldL p.ctl (encL p bl) = p ∧ ldB p.ctl (encL p bl) = bl ∧ 1 ≤ (encL p bl).length ∧ (encL p bl).length ≤ 16 from fun h => dec_enc_low h hp)
  have HBL := Lib.hid hb
  clear hb hp
  by_cases h100 : bl.length ≤ 100
  · rw [decide_eq_true h100] at C0
    by_cases hcc : chkL p bl.length = 0
    · rw [if_pos hcc, hcc] at C1
      rw [hcc] at C2
      obtain ⟨x1, x2, x3, x4, x5⟩ := HX.out hcc
      have C3 := Lib.hid (show ∀ W u, BS W W.heap.size u (encL p bl) → Calls Try.prog 19 #[.bool p.ctl, u] W fun e w' => Below W.heap.size W w' ∧ ∃ A c, e = .returned (.tuple #[lowV p (.slice A bl.length c), .int .i64 0]) ∧ BS w' w'.heap.size (.slice A bl.length c) bl by
        intro W u hu
        refine (tdecode_any p.ctl (encL p bl) (by omega) u W hu).mono ?_
        rintro e w' ⟨hb, A', c', he, hs⟩
        rw [x1, x2, x3] at he
        rw [x3] at hs
        exact ⟨hb, A', c', he, BS.of_own rfl hs⟩)
      generalize encL p bl = ys at *
      have g1 : decide (1 ≤ ys.length) = true := decide_eq_true x4
      have g2 : decide (ys.length ≤ 16) = true := decide_eq_true x5
      clear x1 x2 x3 HX hcc
      obtain ⟨ct, s, a, z, i, l, o, b, f⟩ := p
      go_enter Try.func6, Try.ntmps6
      go_wp2_with fail
      refine (C0.out _).mono ?_
      rintro e w1 ⟨rfl, hb1⟩
      have hB := (low_new w ⟨ct, s, a, z, i, l, o, b, f⟩ (.slice A bl.length c) 25).on hb1
      have HA1 := Lib.hid (one hb1)
      have HB := Lib.hid hB
      obtain ⟨k0, k1, k2, k3, k4, k5, k6, k7, k8, k9⟩ := low_box hB
      dsimp only at k0 k1 k2 k3 k4 k5 k6 k7 k8
      clear hB hb1
      go_wp2_with fail
      refine (C1.out _ HA1.out).mono ?_
      rintro e w2 ⟨hb2, u, rfl, hu⟩
      obtain ⟨A2, c2, rfl⟩ := bs_form hu
      have HA2 := Lib.hid (bthen HA1.out hb2)
      have HU2 := Lib.hid hu
      have hB := HB.out.on hb2
      have HB2 := Lib.hid hB
      clear k0 k1 k2 k3 k4 k5 k6 k7 k8 k9
      obtain ⟨k0, k1, k2, k3, k4, k5, k6, k7, k8, k9⟩ := low_box hB
      dsimp only at k0 k1 k2 k3 k4 k5 k6 k7 k8
      clear hB hb2 hu
      go_wp2_with fail
      refine (C2.out _).mono ?_
      rintro e w3 ⟨rfl, hb3⟩
      have HA3 := Lib.hid (bthen HA2.out hb3)
      have HU3 := Lib.hid (HU2.out.on hb3)
      have HB3 := Lib.hid (HB2.out.on hb3)
      clear k0 k1 k2 k3 k4 k5 k6 k7 k8 k9
      have k0 := (HB2.out.on hb3).cell (j := 0) rfl
      dsimp only at k0
      clear hb3
      go_wp2_with fail
      refine (C3.out _ _ HU3.out).mono ?_
      rintro e w4 ⟨hb4, A4, c4, rfl, hu4⟩
      have HA4 := Lib.hid (bthen HA3.out hb4)
      have HV4 := Lib.hid hu4
      have HB4 := Lib.hid (HB3.out.on hb4)
      have HM4 := Lib.hid (low_new w4 ⟨ct, s, a, z, i, l, o, b, f⟩ (.slice A4 bl.length c4) 25)
      clear hb4 hu4 k0
      go_wp2_with fail
      refine (lives_any _).mono ?_
      rintro e w5 ⟨rfl, hb5⟩
      have HA5 := Lib.hid (bthen (HA4.out.alloc HA4.out.size _) hb5)
      have HV5 := Lib.hid ((HV4.out.on (al1 _ _)).on hb5)
      have hB := (HB4.out.alloc _).on hb5
      have hM := HM4.out.on hb5
      obtain ⟨k0, k1, k2, k3, k4, k5, k6, k7, k8, k9⟩ := low_box hB
      dsimp only at k0 k1 k2 k3 k4 k5 k6 k7 k8
      obtain ⟨m0, m1, m2, m3, m4, m5, m6, m7, m8, m9⟩ := low_box hM
      dsimp only at m0 m1 m2 m3 m4 m5 m6 m7 m8
      clear hb5 hB hM
      go_wp2_with fail
      refine (samelow_any ⟨ct, s, a, z, i, l, o, b, f⟩ ⟨ct, s, a, z, i, l, o, b, f⟩ _ _ bl bl _ (HBL.out.on HA5.out) HV5.out).mono ?_
      rintro e w6 ⟨rfl, hb6⟩
      rw [decide_eq_true ⟨rfl, rfl⟩]
      have HA6 := Lib.hid (bthen HA5.out hb6)
      clear hb6 k0 k1 k2 k3 k4 k5 k6 k7 k8 k9 m0 m1 m2 m3 m4 m5 m6 m7 m8 m9
      go_wp2
      go_ret
      exact ⟨by first | rfl | (simp; omega), HA6.out⟩
    · rw [if_neg hcc] at C1
      have hcc' := ne_bool hcc
      clear hcc HX
      generalize chkL p bl.length = cc at *
      obtain ⟨ct, s, a, z, i, l, o, b, f⟩ := p
      go_enter Try.func6, Try.ntmps6
      go_wp2_with fail
      refine (C0.out _).mono ?_
      rintro e w1 ⟨rfl, hb1⟩
      have hB := (low_new w ⟨ct, s, a, z, i, l, o, b, f⟩ (.slice A bl.length c) 25).on hb1
      have HA1 := Lib.hid (one hb1)
      have HB := Lib.hid hB
      obtain ⟨k0, k1, k2, k3, k4, k5, k6, k7, k8, k9⟩ := low_box hB
      dsimp only at k0 k1 k2 k3 k4 k5 k6 k7 k8
      clear hB hb1
      go_wp2_with fail
      refine (C1.out _ HA1.out).mono ?_
      rintro e w2 ⟨hb2, u, rfl, hu⟩
      obtain ⟨A2, c2, rfl⟩ := bs_form hu
      have HA2 := Lib.hid (bthen HA1.out hb2)
      have hB := HB.out.on hb2
      clear k0 k1 k2 k3 k4 k5 k6 k7 k8 k9
      obtain ⟨k0, k1, k2, k3, k4, k5, k6, k7, k8, k9⟩ := low_box hB
      dsimp only at k0 k1 k2 k3 k4 k5 k6 k7 k8
      clear hB hb2 hu
      go_wp2_with fail
      refine (C2.out _).mono ?_
      rintro e w3 ⟨rfl, hb3⟩
      have HA3 := Lib.hid (bthen HA2.out hb3)
      clear k0 k1 k2 k3 k4 k5 k6 k7 k8 k9 hb3
      go_wp2_with fail
      refine (lives_any _).mono ?_
      rintro e w5 ⟨rfl, hb5⟩
      have HA5 := Lib.hid (bthen HA3.out hb5)
      clear hb5
      go_wp2
      go_ret
      exact ⟨rfl, HA5.out⟩
  · rw [decide_eq_false h100] at C0
    clear HX C1 C2
    generalize bl.length = n at *
    obtain ⟨ct, s, a, z, i, l, o, b, f⟩ := p
    go_enter Try.func6, Try.ntmps6
    go_wp2_with fail
    refine (C0.out _).mono ?_
    rintro e w1 ⟨rfl, hb1⟩
    have HA1 := Lib.hid (one hb1)
    clear hb1
    go_wp2_with fail
    refine (lives_any _).mono ?_
    rintro e w4 ⟨rfl, hb4⟩
    have HA4 := Lib.hid (bthen HA1.out hb4)
    clear hb4
    go_wp2
    go_ret
    exact ⟨rfl, HA4.out⟩

theorem transportChecks_any50 (p : Low) (bl : List UInt8) (v : Value) (m : Int) (w : World) (hb : BS w w.heap.size v bl) : Calls Try.prog 3 #[lowV p v, .int .i64 m] w fun e w' => e = .returned (.bool true) ∧ Below w.heap.size w w' := by
  obtain ⟨A, c, rfl⟩ := bs_form hb
  exact transportChecks_walk p A bl.length c m w
end Go.Proofs.Ytkpjinkkjbljkaa
