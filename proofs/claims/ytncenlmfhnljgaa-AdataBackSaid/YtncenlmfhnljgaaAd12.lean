/- Walks of the law of adata: own. No condition. -/
import Derived.Test.YtncenlmfhnljgaaAd11
namespace Go.Proofs.Ytncenlmfhnljgaa
open Go.RowKit

def OwnPost (w : World) (es : List (Int × List UInt8)) (e : Ending) (w' : World) : Prop :=
  Below w.heap.size w w' ∧ ∃ v, e = .returned v ∧ ElsV w' w'.heap.size v es
set_option maxRecDepth 100000 in
set_option maxHeartbeats 4000000 in
theorem aown_any (v : Value) (es : List (Int × List UInt8)) (w : World) (hv : ElsV w w.heap.size v es) (hle : es.length ≤ 100) (hsz : ∀ e ∈ es, e.2.length ≤ 140737488355328) : Calls Try.prog 11 #[v] w (OwnPost w es) := by
  obtain ⟨A, c, rfl⟩ := hv.form
  have HQ := Lib.hid (show ∀ (e : Ending) (w' : World), (Below w.heap.size w w' ∧ ∃ v, e = .returned v ∧ ElsV w' w'.heap.size v es) → OwnPost w es e w' from fun _ _ h => h)
  generalize OwnPost w es = Q at *
  have HV := Lib.hid hv
  have HLE := Lib.hid hle
  have HSZ := Lib.hid hsz
  clear hv hle hsz
  go_enter Try.func11, Try.ntmps11
  go_wp2_with fail
  go_loopw [3, 4] (fun x i wr => ∃ j : Nat, j ≤ es.length ∧ i = .int .i64 j ∧ OwnEls wr w.heap.size x (es.take j) ∧ Below w.heap.size w wr) (fun _ i _ => es.length - (intOf i).toNat)
  case atStart => exact ⟨0, Nat.zero_le _, rfl, ⟨[], rfl, World.ownsRow_lit (base := w.heap.size) (e := 49) (size := 2) w #[] 0 (Nat.le_refl _) (by simp [maxLen]) rfl, fun _ _ _ h => by simp at h⟩, al1 _ _⟩
  case round =>
    obtain ⟨j, hj, rfl, ho, hbel⟩ := hrel
    obtain ⟨A4, c4, rfl⟩ := ho.form
    have hjl : (es.take j).length = j := by rw [List.length_take]; omega
    rw [hjl] at *
    have HJL := Lib.hid (show (es.take j).length = j by rw [List.length_take]; omega)
    clear hjl
    have HBE := Lib.hid hbel
    have HO := Lib.hid ho
    by_cases hlt : j < es.length
    · have hej := List.getElem?_eq_getElem hlt
      obtain ⟨b, o, c2, A', c', hform, hB, d0, d1, hbs⟩ := els_cells (HV.out.below hbel) hej
      injection hform with hf1 _ hf3
      subst hf1 hf3
      have HEJ := Lib.hid hej
      have HBS := Lib.hid hbs
      have hbz : b < wr.heap.size := Nat.lt_of_lt_of_le hB hbel.size
      have HLJ := Lib.hid (HSZ.out _ (List.getElem_mem hlt))
      have HTK := Lib.hid (List.take_succ_eq_append_getElem hlt)
      generalize es[j] = ej at *
      obtain ⟨kj, lj⟩ := ej
      dsimp only at d0 d1
      have zw := HBE.out.size
      clear hbel hej hbs ho
      go_upto_region 5 with fail
      refine wp_region_noPanic ?_
      refine wp_region_held_drew (S := fun w' => (w'.cell? ⟨b, o + j * 2, none⟩ = some (.int .i64 kj) ∧ w'.cell? ⟨b, o + j * 2 + 1, none⟩ = some (.slice A' lj.length c')) ∧ b < w'.heap.size) (by kernel_rfl) (by (go_keep; try omega)) (fun hHeld => ?_)
      refine wpAnyH_take (i := 0) (v := ?_) rfl (by kernel_rfl) (by kernel_rfl) (by kernel_rfl) (fun _ _ _ h => h) (Or.inl ⟨by rfl, ?_⟩) (by assumption) ?_
      rotate_left
      · intro w hSw
        (try dsimp only at hSw)
        go_simp
        first | done | with_reducible rfl
      simp only [Act.put, List.getElem_toArray, List.getElem_cons_zero, List.setIfInBounds_toArray, List.set_cons_zero, List.set_cons_succ]
      refine wpAnyH_take (i := 1) (v := ?_) rfl (by kernel_rfl) (by kernel_rfl) (by kernel_rfl) (fun _ _ _ h => h) (Or.inl ⟨by rfl, ?_⟩) (by assumption) ?_
      rotate_left
      · intro w hSw
        (try dsimp only at hSw)
        go_simp
        first | done | with_reducible rfl
      simp only [Act.put, List.getElem_toArray, List.getElem_cons_succ, List.getElem_cons_zero, List.setIfInBounds_toArray, List.set_cons_zero, List.set_cons_succ]
      refine wpAnyH_take (i := 2) (v := ?_) rfl (by kernel_rfl) (by kernel_rfl) (by kernel_rfl) (fun _ _ _ h => h) (Or.inl ⟨by rfl, ?_⟩) (by assumption) ?_
      rotate_left
      · intro w hSw
        (try dsimp only at hSw)
        go_simp
        first | done | with_reducible rfl
      simp only [Act.put, List.getElem_toArray, List.getElem_cons_succ, List.getElem_cons_zero, List.setIfInBounds_toArray, List.set_cons_zero, List.set_cons_succ]
      refine wpAnyH_take (i := 3) (v := ?_) rfl (by kernel_rfl) (by kernel_rfl) (by kernel_rfl) (fun _ _ _ h => h) (Or.inl ⟨by rfl, ?_⟩) (by assumption) ?_
      rotate_left
      · intro w hSw
        (try dsimp only at hSw)
        go_simp
        first | done | with_reducible rfl
      simp only [Act.put, List.getElem_toArray, List.getElem_cons_succ, List.getElem_cons_zero, List.setIfInBounds_toArray, List.set_cons_zero, List.set_cons_succ]
      refine wpAnyH_take (i := 4) (v := ?_) rfl (by kernel_rfl) (by kernel_rfl) (by kernel_rfl) (fun _ _ _ h => h) (Or.inl ⟨by rfl, ?_⟩) (by assumption) ?_
      rotate_left
      · intro w hSw
        (try dsimp only at hSw)
        go_simp
        first | done | with_reducible rfl
      simp only [Act.put, List.getElem_toArray, List.getElem_cons_succ, List.getElem_cons_zero, List.setIfInBounds_toArray, List.set_cons_zero, List.set_cons_succ]
      refine wpAnyH_take (i := 5) (v := ?_) rfl (by kernel_rfl) (by kernel_rfl) (by kernel_rfl) (fun _ _ _ h => h) (Or.inl ⟨by rfl, ?_⟩) (by assumption) ?_
      rotate_left
      · intro w hSw
        (try dsimp only at hSw)
        go_simp
        first | done | with_reducible rfl
      simp only [Act.put, List.getElem_toArray, List.getElem_cons_succ, List.getElem_cons_zero, List.setIfInBounds_toArray, List.set_cons_zero, List.set_cons_succ]
      refine wpAnyH_take (i := 6) (v := ?_) rfl (by kernel_rfl) (by kernel_rfl) (by kernel_rfl) (fun _ _ _ h => h) (Or.inl ⟨by rfl, ?_⟩) (by assumption) ?_
      rotate_left
      · intro w hSw
        (try dsimp only at hSw)
        go_simp
        first | done | with_reducible rfl
      simp only [Act.put, List.getElem_toArray, List.getElem_cons_succ, List.getElem_cons_zero, List.setIfInBounds_toArray, List.set_cons_zero, List.set_cons_succ]
      refine wpAnyH_take (i := 7) (v := ?_) rfl (by kernel_rfl) (by kernel_rfl) (by kernel_rfl) (fun _ _ _ h => h) (Or.inl ⟨by rfl, ?_⟩) (by assumption) ?_
      rotate_left
      · intro w hSw
        (try dsimp only at hSw)
        go_simp
        first | done | with_reducible rfl
      simp only [Act.put, List.getElem_toArray, List.getElem_cons_succ, List.getElem_cons_zero, List.setIfInBounds_toArray, List.set_cons_zero, List.set_cons_succ]
      refine wpAnyH_take (i := 8) (v := ?_) rfl (by kernel_rfl) (by kernel_rfl) (by kernel_rfl) (fun _ _ _ h => h) (Or.inl ⟨by rfl, ?_⟩) (by assumption) ?_
      rotate_left
      · intro w hSw
        (try dsimp only at hSw)
        go_simp
        first | done | with_reducible rfl
      simp only [Act.put, List.getElem_toArray, List.getElem_cons_succ, List.getElem_cons_zero, List.setIfInBounds_toArray, List.set_cons_zero, List.set_cons_succ]
      refine wpAnyH_take (i := 9) (v := ?_) rfl (by kernel_rfl) (by kernel_rfl) (by kernel_rfl) (fun _ _ _ h => h) (Or.inl ⟨by rfl, ?_⟩) (by assumption) ?_
      rotate_left
      · intro w hSw
        (try dsimp only at hSw)
        go_simp
        first | done | with_reducible rfl
      simp only [Act.put, List.getElem_toArray, List.getElem_cons_succ, List.getElem_cons_zero, List.setIfInBounds_toArray, List.set_cons_zero, List.set_cons_succ]
      refine wpAnyH_take (i := 10) (v := ?_) rfl (by kernel_rfl) (by kernel_rfl) (by kernel_rfl) (fun _ _ _ h => h) (Or.inl ⟨by rfl, ?_⟩) (by assumption) ?_
      rotate_left
      · intro w hSw
        (try dsimp only at hSw)
        go_simp
        first | done | with_reducible rfl
      simp only [Act.put, List.getElem_toArray, List.getElem_cons_succ, List.getElem_cons_zero, List.setIfInBounds_toArray, List.set_cons_zero, List.set_cons_succ]
      refine wpAnyH_ready (rs := [11]) (by kernel_rfl) (by simp) ?_
      refine AllReadyH.cons rfl (fun K hK => ?_) AllReadyH.nil
      go_simp
      refine (acopied_any _ lj _ (show BS wr.drew wr.drew.heap.size (.slice A' lj.length c') lj from (HBS.out.below ((Below.refl _ _).drew)).more zw) HLJ.out).mono ?_
      rintro e w5 ⟨hb5, u, rfl, hown5⟩
      have hq5 : Below wr.heap.size wr w5 := ((Below.refl _ _).drew).trans hb5
      obtain ⟨A5, c5, rfl⟩ := own_form hown5
      have x5 : w5.cell? ⟨b, o + j * 2, none⟩ = some (.int .i64 kj) := (hq5.cell (p := ⟨b, o + j * 2, none⟩) hbz).trans d0
      have x6 : w5.cell? ⟨b, o + j * 2 + 1, none⟩ = some (.slice A' lj.length c') := (hq5.cell (p := ⟨b, o + j * 2 + 1, none⟩) hbz).trans d1
      have z5 : b < w5.heap.size := Nat.lt_of_lt_of_le hbz hq5.size
      have y5 : wr.heap.size ≤ w5.heap.size := hq5.size
      have HOB5 := Lib.hid (show OB w5 w.heap.size (.slice A5 lj.length c5) lj from own_base hown5 zw)
      have HQ5 := Lib.hid hq5
      obtain ⟨vs, k1, k2, k3⟩ := HO.out.on hq5
      rw [HJL.out] at k1 k2
      have HK1 := Lib.hid k1
      have HK2 := Lib.hid k2
      have HK3 := Lib.hid k3
      clear k1 k2 k3 hown5 hb5 hq5
      first | (refine hK.out _ _ ?_ (fun hHeld => ?_)) | (go_wp2_with fail; refine hK.out _ _ ?_ (fun hHeld => ?_))
      · (go_keep; try omega)
      clear hK K
      try simp only [Act.put, List.getElem_toArray, List.getElem_cons_succ, List.getElem_cons_zero, List.setIfInBounds_toArray, List.set_cons_zero, List.set_cons_succ]
      refine wpAnyH_take (i := 12) (v := ?_) rfl (by kernel_rfl) (by kernel_rfl) (by kernel_rfl) (fun _ _ _ h => h) (Or.inl ⟨by rfl, ?_⟩) (by assumption) ?_
      rotate_left
      · intro w hSw
        (try dsimp only at hSw)
        go_simp
        first | done | with_reducible rfl
      simp only [Act.put, List.getElem_toArray, List.getElem_cons_succ, List.getElem_cons_zero, List.setIfInBounds_toArray, List.set_cons_zero, List.set_cons_succ]
      refine wpAnyH_ready (rs := [13]) (by kernel_rfl) (by simp) ?_
      refine AllReadyH.cons rfl (fun K hK => ?_) AllReadyH.nil
      go_simp
      first | (refine hK.out _ _ ?_ (fun hHeld => ?_)) | (go_wp2_with fail; refine hK.out _ _ ?_ (fun hHeld => ?_))
      · (go_keep; try omega)
      clear hK K
      try simp only [Act.put, List.getElem_toArray, List.getElem_cons_succ, List.getElem_cons_zero, List.setIfInBounds_toArray, List.set_cons_zero, List.set_cons_succ]
      refine wpAnyH_ready (rs := [14]) (by kernel_rfl) (by simp) ?_
      refine AllReadyH.cons rfl (fun K hK => ?_) AllReadyH.nil
      refine step_sl _ elE rfl (.tmp 12) (.tmp 25) rfl rfl (HK2.out.alloc _) rfl (Sl.lit _ _ _ 1 rfl (by simp [maxLen])) ?_ ?_ ?_ ?_
      · intro u hu; simp at hu; rcases hu with rfl | rfl <;> rfl
      · have := HLE.out; omega
      · exact Nat.le_trans (Nat.le_trans zw y5) (by simp)
      intro v9 w9 hown9 hg9 _ _
      have hb9 : Below w.heap.size w5 w9 := below_app ((Below.refl _ _).alloc (Nat.le_trans zw y5) _) (HK2.out.alloc _) hg9 (Nat.le_refl _) (Nat.le_trans (Nat.le_trans zw y5) (by simp))
      have x7 : w9.cell? ⟨b, o + j * 2, none⟩ = some (.int .i64 kj) := (hb9.cell (p := ⟨b, o + j * 2, none⟩) hB).trans x5
      have x8 : w9.cell? ⟨b, o + j * 2 + 1, none⟩ = some (.slice A' lj.length c') := (hb9.cell (p := ⟨b, o + j * 2 + 1, none⟩) hB).trans x6
      have z9 : b < w9.heap.size := Nat.lt_of_lt_of_le z5 hb9.size
      obtain ⟨A6, c6, rfl⟩ := own_form hown9
      refine hK.out _ _ ⟨⟨x7, x8⟩, z9⟩ (fun hHeld => ?_)
      clear hK K
      simp only [Act.put, List.getElem_toArray, List.getElem_cons_succ, List.getElem_cons_zero, List.setIfInBounds_toArray, List.set_cons_zero, List.set_cons_succ]
      have hO : OwnEls w9 w.heap.size (.slice A6 (j + 1) c6) (es.take j ++ [(kj, lj)]) :=
        ownM_snoc (w := w5.alloc (.cells #[.int .i64 kj, .slice A5 lj.length c5] 49)) (vs := vs) (u := .slice A5 lj.length c5) (by rw [HJL.out]; exact HK1.out) HJL.out.symm (by decide) (HK2.out.alloc _) (fun i p u hp hu => (HK3.out i p u hp hu).alloc _) (HOB5.out.alloc _) hown9 hg9
      have HO9 := Lib.hid hO
      have HB9 := Lib.hid ((HBE.out.trans (HQ5.out.mono zw)).trans hb9)
      clear hO hb9 hown9 hg9
      refine wpAnyH_take (i := 15) (v := ?_) rfl (by kernel_rfl) (by kernel_rfl) (by kernel_rfl) (fun _ _ _ h => h) (Or.inl ⟨by rfl, ?_⟩) (by assumption) ?_
      rotate_left
      · intro w hSw
        (try dsimp only at hSw)
        go_simp
        first | done | with_reducible rfl
      simp only [Act.put, List.getElem_toArray, List.getElem_cons_succ, List.getElem_cons_zero, List.setIfInBounds_toArray, List.set_cons_zero, List.set_cons_succ]
      refine wpAnyH_done (by kernel_rfl) ?_ _
      refine NoPanic.normal ?_
      clear x5 x6 x7 x8 hHeld d0 d1
      go_wp2_with fail
      go_roundw
      case rel =>
        refine ⟨j + 1, by omega, by rw [IntWalk.wrap64_in ((j : Int) + 1) (by have := HLE.out; omega)]; go_num, ?_, HB9.out⟩
        rw [HTK.out]
        exact HO9.out
      case measure => rw [IntWalk.wrap64_in ((j : Int) + 1) (by have := HLE.out; omega)]; simp [intOf]; omega
    · have hje : j = es.length := by omega
      subst hje
      clear hbel ho
      go_wp2_with fail
      refine HQ.out _ _ ⟨HBE.out, _, rfl, ?_⟩
      have h := HO.out.reads
      rw [List.take_length] at h
      exact h
end Go.Proofs.Ytncenlmfhnljgaa
