/- Walks of the reference of adata: Encode. No condition. -/
import Derived.Test.YtncenlmfhnljgaaAd10
namespace Go.Proofs.Ytncenlmfhnljgaa
open Go.RowKit

set_option maxRecDepth 100000 in
set_option maxHeartbeats 4000000 in
theorem raencode_any (v : Value) (es : List (Int × List UInt8)) (w : World) (hv : ElsV w w.heap.size v es) (hle : es.length ≤ 1099511627776) : Calls Try.prog 12 #[v] w (AEncPost w es) := by
  obtain ⟨A, c, rfl⟩ := hv.form
  have HQ := Lib.hid (show ∀ (e : Ending) (w' : World), (Below w.heap.size w w' ∧ ∃ v, e = .returned (.tuple #[v, .int .i64 (encE es)]) ∧ BS w' w'.heap.size v (encR es)) → AEncPost w es e w' from fun _ _ h => h)
  generalize AEncPost w es = Q at *
  have HV := Lib.hid hv
  have HLE := Lib.hid hle
  clear hv hle
  go_enter Try.func12, Try.ntmps12
  go_wp2_with fail
  go_loopw [4] (fun i wr => ∃ j : Nat, j ≤ es.length ∧ i = .int .i64 j ∧ (es.take j).any badA = false ∧ Below w.heap.size w wr) (fun i _ => es.length - (intOf i).toNat)
  case atStart => exact ⟨0, Nat.zero_le _, rfl, rfl, Below.refl _ _⟩
  case round =>
    obtain ⟨j, hj, rfl, hno, hbel⟩ := hrel
    have HNO := Lib.hid hno
    have HBE := Lib.hid hbel
    by_cases hlt : j < es.length
    · have hej := List.getElem?_eq_getElem hlt
      obtain ⟨b, o, c2, A', c', hform, hB, d0, d1, hbs⟩ := els_cells (HV.out.below hbel) hej
      injection hform with hf1 _ hf3
      subst hf1 hf3
      have HEJ := Lib.hid hej
      have hbz : b < wr.heap.size := Nat.lt_of_lt_of_le hB hbel.size
      generalize es[j] = ej at *
      obtain ⟨kj, lj⟩ := ej
      dsimp only at d0 d1
      clear hno hbel hej hbs
      by_cases hk0 : kj < 0
      · have hd0 : decide (kj < 0) = true := decide_eq_true hk0
        have HBAD := Lib.hid (encE_bad (any_hit HEJ.out (show badA (kj, lj) = true by unfold badA; rw [hd0]; rfl)))
        go_wp2_with fail
        exact HQ.out _ _ ⟨HBE.out, _, by rw [HBAD.out.1], by rw [HBAD.out.2]; exact .nil _ _⟩
      · have hd0 : decide (kj < 0) = false := decide_eq_false hk0
        by_cases hk1 : 255 < kj
        · have hd1 : decide (255 < kj) = true := decide_eq_true hk1
          have HBAD := Lib.hid (encE_bad (any_hit HEJ.out (show badA (kj, lj) = true by unfold badA; rw [hd0, hd1]; rfl)))
          go_wp2_with fail
          exact HQ.out _ _ ⟨HBE.out, _, by rw [HBAD.out.1], by rw [HBAD.out.2]; exact .nil _ _⟩
        · have hd1 : decide (255 < kj) = false := decide_eq_false hk1
          have HGOOD := Lib.hid (any_miss HNO.out HEJ.out (show badA (kj, lj) = false by unfold badA; rw [hd0, hd1]; rfl))
          go_wp2_with fail
          go_roundw
          case rel => exact ⟨j + 1, by omega, by rw [IntWalk.wrap64_in ((j : Int) + 1) (by have := HLE.out; omega)]; go_num, HGOOD.out, HBE.out⟩
          case measure => rw [IntWalk.wrap64_in ((j : Int) + 1) (by have := HLE.out; omega)]; simp [intOf]; omega
    · have hje : j = es.length := by omega
      subst hje
      rw [List.take_length] at *
      have HNO2 := Lib.hid (show es.any badA = false from hno)
      clear HNO hno
      go_wp2_with fail
      go_loopw [5, 6] (fun x i wx => ∃ j : Nat, j ≤ es.length ∧ i = .int .i64 j ∧ OB wx w.heap.size x (encA (es.take j)) ∧ (encA (es.take j)).length ≤ 64 ∧ Below w.heap.size w wx) (fun _ i _ => es.length - (intOf i).toNat)
      case atStart => exact ⟨0, Nat.zero_le _, rfl, own_base (OB.nil _) HBE.out.size, by simp [encA], HBE.out.alloc HBE.out.size _⟩
      case round =>
        obtain ⟨j, hj, rfl, hob, h64, hbel⟩ := hrel
        obtain ⟨A1, c1, rfl⟩ := own_form hob
        have HOB := Lib.hid hob
        have HBX := Lib.hid hbel
        have H64 := Lib.hid h64
        by_cases hlt : j < es.length
        · have hej := List.getElem?_eq_getElem hlt
          obtain ⟨b, o, c2, A', c', hform, hB, d0, d1, hbs⟩ := els_cells (HV.out.below hbel) hej
          injection hform with hf1 _ hf3
          subst hf1 hf3
          have HEJ := Lib.hid hej
          have HBS := Lib.hid hbs
          have hbz : b < wr.heap.size := Nat.lt_of_lt_of_le hB hbel.size
          generalize es[j] = ej at *
          have HT := Lib.hid (encA_take HEJ.out)
          have HTL := Lib.hid (show (encA (es.take j)).length + 2 + ej.2.length ≤ (encA es).length by
            have h1 := encA_le es (j + 1)
            rw [HT.out, List.length_append] at h1
            simp only [enc1, List.length_cons] at h1
            omega)
          obtain ⟨kj, lj⟩ := ej
          have HKB := Lib.hid (show 0 ≤ kj ∧ kj ≤ 255 by
            have h1 : badA (kj, lj) = false := by
              by_cases h : badA (kj, lj) = true
              · rw [any_hit HEJ.out h] at *; have := HNO2.out; simp at this
              · simpa using h
            unfold badA at h1
            simp at h1
            omega)
          dsimp only at d0 d1 HTL
          clear hob hbel hej hbs h64
          by_cases hl31 : 31 < lj.length
          · have hdl : decide ((31 : Int) < (lj.length : Int)) = true := decide_eq_true (by omega)
            have HL := Lib.hid (encE_long HNO2.out (by have := HTL.out; omega))
            clear hl31
            go_wp2_with fail
            exact HQ.out _ _ ⟨HBX.out, _, by rw [HL.out.1], by rw [HL.out.2]; exact .nil _ _⟩
          · have hdl : decide ((31 : Int) < (lj.length : Int)) = false := decide_eq_false (by omega)
            by_cases hb31 : 31 < (encA (es.take j)).length
            · have hdb : decide ((31 : Int) < ((encA (es.take j)).length : Int)) = true := decide_eq_true (by omega)
              have HL := Lib.hid (encE_long HNO2.out (by have := HTL.out; omega))
              clear hb31
              go_wp2_with fail
              exact HQ.out _ _ ⟨HBX.out, _, by rw [HL.out.1], by rw [HL.out.2]; exact .nil _ _⟩
            · have hdb : decide ((31 : Int) < ((encA (es.take j)).length : Int)) = false := decide_eq_false (by omega)
              have hw1 : IntKind.u8.wrap (1 + (lj.length : Int)) = ((UInt8.ofNat (1 + lj.length)).toNat : Int) := by rw [IntKind.wrap_u8]; simp
              have hw2 : IntKind.u8.wrap kj = ((UInt8.ofNat kj.toNat).toNat : Int) := by have := HKB.out; rw [IntKind.wrap_u8]; simp; omega
              have HT2 := Lib.hid (show encA (es.take (j + 1)) = encA (es.take j) ++ [UInt8.ofNat (1 + lj.length), UInt8.ofNat kj.toNat] ++ lj by rw [HT.out]; simp [enc1])
              generalize UInt8.ofNat (1 + lj.length) = x at *
              generalize UInt8.ofNat kj.toNat = y at *
              have zw := HBX.out.size
              have hw0 : IntKind.i64.wrap (1 + (lj.length : Int)) = 1 + (lj.length : Int) := IntWalk.i64_in _ (by omega)
              have hl31' : lj.length ≤ 31 := by omega
              have hb31' : (encA (es.take j)).length ≤ 31 := by omega
              clear hl31 hb31
              go_upto_region 12 with fail
              refine wp_region_noPanic ?_
              refine wp_region_held_drew (S := fun w' => (w'.cell? ⟨b, o + j * 2, none⟩ = some (.int .i64 kj) ∧ w'.cell? ⟨b, o + j * 2 + 1, none⟩ = some (.slice A' lj.length c')) ∧ b < w'.heap.size) (by kernel_rfl) (by (go_keep; try omega)) (fun hHeld => ?_)
              refine wpAnyH_take (i := 0) (v := ?_) rfl (by kernel_rfl) (by kernel_rfl) (by kernel_rfl) (fun _ _ _ h => h) (Or.inl ⟨by rfl, ?_⟩) (by assumption) ?_
              rotate_left
              · intro w hSw
                (try dsimp only at hSw)
                go_simp
                first | done | with_reducible rfl
              simp only [Act.put, List.getElem_toArray, List.getElem_cons_zero, List.setIfInBounds_toArray, List.set_cons_zero, List.set_cons_succ]
              refine wpAnyH_take (i := 1) (v := ?_) rfl (by kernel_rfl) (by kernel_rfl) (by kernel_rfl) (fun _ _ _ h => h) (Or.inl ⟨by rfl, ?_⟩) (by assumption) ?_
              rotate_left
              · intro w hSw
                (try dsimp only at hSw)
                go_simp
                first | done | with_reducible rfl
              simp only [Act.put, List.getElem_toArray, List.getElem_cons_succ, List.getElem_cons_zero, List.setIfInBounds_toArray, List.set_cons_zero, List.set_cons_succ]
              refine wpAnyH_take (i := 2) (v := ?_) rfl (by kernel_rfl) (by kernel_rfl) (by kernel_rfl) (fun _ _ _ h => h) (Or.inl ⟨by rfl, ?_⟩) (by assumption) ?_
              rotate_left
              · intro w hSw
                (try dsimp only at hSw)
                go_simp
                first | done | with_reducible rfl
              simp only [Act.put, List.getElem_toArray, List.getElem_cons_succ, List.getElem_cons_zero, List.setIfInBounds_toArray, List.set_cons_zero, List.set_cons_succ]
              refine wpAnyH_take (i := 3) (v := ?_) rfl (by kernel_rfl) (by kernel_rfl) (by kernel_rfl) (fun _ _ _ h => h) (Or.inl ⟨by rfl, ?_⟩) (by assumption) ?_
              rotate_left
              · intro w hSw
                (try dsimp only at hSw)
                go_simp
                first | done | with_reducible rfl
              simp only [Act.put, List.getElem_toArray, List.getElem_cons_succ, List.getElem_cons_zero, List.setIfInBounds_toArray, List.set_cons_zero, List.set_cons_succ]
              refine wpAnyH_take (i := 4) (v := ?_) rfl (by kernel_rfl) (by kernel_rfl) (by kernel_rfl) (fun _ _ _ h => h) (Or.inl ⟨by rfl, ?_⟩) (by assumption) ?_
              rotate_left
              · intro w hSw
                (try dsimp only at hSw)
                go_simp
                first | done | with_reducible rfl
              simp only [Act.put, List.getElem_toArray, List.getElem_cons_succ, List.getElem_cons_zero, List.setIfInBounds_toArray, List.set_cons_zero, List.set_cons_succ]
              refine wpAnyH_take (i := 5) (v := ?_) rfl (by kernel_rfl) (by kernel_rfl) (by kernel_rfl) (fun _ _ _ h => h) (Or.inl ⟨by rfl, ?_⟩) (by assumption) ?_
              rotate_left
              · intro w hSw
                (try dsimp only at hSw)
                go_simp
                first | done | with_reducible rfl
              simp only [Act.put, List.getElem_toArray, List.getElem_cons_succ, List.getElem_cons_zero, List.setIfInBounds_toArray, List.set_cons_zero, List.set_cons_succ]
              refine wpAnyH_take (i := 6) (v := ?_) rfl (by kernel_rfl) (by kernel_rfl) (by kernel_rfl) (fun _ _ _ h => h) (Or.inl ⟨by rfl, ?_⟩) (by assumption) ?_
              rotate_left
              · intro w hSw
                (try dsimp only at hSw)
                go_simp
                first | done | with_reducible rfl
              simp only [Act.put, List.getElem_toArray, List.getElem_cons_succ, List.getElem_cons_zero, List.setIfInBounds_toArray, List.set_cons_zero, List.set_cons_succ]
              refine wpAnyH_take (i := 7) (v := ?_) rfl (by kernel_rfl) (by kernel_rfl) (by kernel_rfl) (fun _ _ _ h => h) (Or.inl ⟨by rfl, ?_⟩) (by assumption) ?_
              rotate_left
              · intro w hSw
                (try dsimp only at hSw)
                go_simp
                first | done | with_reducible rfl
              simp only [Act.put, List.getElem_toArray, List.getElem_cons_succ, List.getElem_cons_zero, List.setIfInBounds_toArray, List.set_cons_zero, List.set_cons_succ]
              refine wpAnyH_take (i := 8) (v := ?_) rfl (by kernel_rfl) (by kernel_rfl) (by kernel_rfl) (fun _ _ _ h => h) (Or.inl ⟨by rfl, ?_⟩) (by assumption) ?_
              rotate_left
              · intro w hSw
                (try dsimp only at hSw)
                go_simp
                first | done | with_reducible rfl
              simp only [Act.put, List.getElem_toArray, List.getElem_cons_succ, List.getElem_cons_zero, List.setIfInBounds_toArray, List.set_cons_zero, List.set_cons_succ]
              refine wpAnyH_take (i := 9) (v := ?_) rfl (by kernel_rfl) (by kernel_rfl) (by kernel_rfl) (fun _ _ _ h => h) (Or.inl ⟨by rfl, ?_⟩) (by assumption) ?_
              rotate_left
              · intro w hSw
                (try dsimp only at hSw)
                go_simp
                first | done | with_reducible rfl
              simp only [Act.put, List.getElem_toArray, List.getElem_cons_succ, List.getElem_cons_zero, List.setIfInBounds_toArray, List.set_cons_zero, List.set_cons_succ]
              refine wpAnyH_take (i := 10) (v := ?_) rfl (by kernel_rfl) (by kernel_rfl) (by kernel_rfl) (fun _ _ _ h => h) (Or.inl ⟨by rfl, ?_⟩) (by assumption) ?_
              rotate_left
              · intro w hSw
                (try dsimp only at hSw)
                go_simp
                first | done | with_reducible rfl
              simp only [Act.put, List.getElem_toArray, List.getElem_cons_succ, List.getElem_cons_zero, List.setIfInBounds_toArray, List.set_cons_zero, List.set_cons_succ]
              refine wpAnyH_take (i := 11) (v := ?_) rfl (by kernel_rfl) (by kernel_rfl) (by kernel_rfl) (fun _ _ _ h => h) (Or.inl ⟨by rfl, ?_⟩) (by assumption) ?_
              rotate_left
              · intro w hSw
                (try dsimp only at hSw)
                go_simp
                first | done | with_reducible rfl
              simp only [Act.put, List.getElem_toArray, List.getElem_cons_succ, List.getElem_cons_zero, List.setIfInBounds_toArray, List.set_cons_zero, List.set_cons_succ]
              refine wpAnyH_take (i := 12) (v := ?_) rfl (by kernel_rfl) (by kernel_rfl) (by kernel_rfl) (fun _ _ _ h => h) (Or.inl ⟨by rfl, ?_⟩) (by assumption) ?_
              rotate_left
              · intro w hSw
                (try dsimp only at hSw)
                go_simp
                first | done | with_reducible rfl
              simp only [Act.put, List.getElem_toArray, List.getElem_cons_succ, List.getElem_cons_zero, List.setIfInBounds_toArray, List.set_cons_zero, List.set_cons_succ]
              refine wpAnyH_take (i := 13) (v := ?_) rfl (by kernel_rfl) (by kernel_rfl) (by kernel_rfl) (fun _ _ _ h => h) (Or.inl ⟨by rfl, ?_⟩) (by assumption) ?_
              rotate_left
              · intro w hSw
                (try dsimp only at hSw)
                go_simp
                first | done | with_reducible rfl
              simp only [Act.put, List.getElem_toArray, List.getElem_cons_succ, List.getElem_cons_zero, List.setIfInBounds_toArray, List.set_cons_zero, List.set_cons_succ]
              refine wpAnyH_take (i := 14) (v := ?_) rfl (by kernel_rfl) (by kernel_rfl) (by kernel_rfl) (fun _ _ _ h => h) (Or.inl ⟨by rfl, ?_⟩) (by assumption) ?_
              rotate_left
              · intro w hSw
                (try dsimp only at hSw)
                go_simp
                first | done | with_reducible rfl
              simp only [Act.put, List.getElem_toArray, List.getElem_cons_succ, List.getElem_cons_zero, List.setIfInBounds_toArray, List.set_cons_zero, List.set_cons_succ]
              refine wpAnyH_ready (rs := [15]) (by kernel_rfl) (by simp) ?_
              refine AllReadyH.cons rfl (fun K hK => ?_) AllReadyH.nil
              go_simp
              first | (refine hK.out _ _ ?_ (fun hHeld => ?_)) | (go_wp2_with fail; refine hK.out _ _ ?_ (fun hHeld => ?_))
              · (go_keep; try omega)
              clear hK K
              try simp only [Act.put, List.getElem_toArray, List.getElem_cons_succ, List.getElem_cons_zero, List.setIfInBounds_toArray, List.set_cons_zero, List.set_cons_succ]
              refine wpAnyH_ready (rs := [16]) (by kernel_rfl) (by simp) ?_
              refine AllReadyH.cons rfl (fun K hK => ?_) AllReadyH.nil
              refine step_by _ elB rfl (.tmp 46) (.tmp 61) rfl rfl (base := w.heap.size) (own_drew (HOB.out.alloc _)) rfl (show BS (wr.alloc (.cells #[.int .u8 (x.toNat : Int), .int .u8 (y.toNat : Int)] 5)).drew (wr.heap.size + 1) (.slice (some ⟨wr.heap.size, 0, none⟩) 2 2) [x, y] from (bs2 wr x y).below ((Below.refl _ _).drew)) (by simp; omega) (by simp <;> omega) ?_
              intro v5 w5 hown5 hb5
              have hq5 : Below w.heap.size wr w5 := (((Below.refl _ _).alloc zw _).drew).trans hb5
              have hown5' : w5.ownsRow w.heap.size 5 1 v5 ((encA (es.take j)).length + 2) (bys (encA (es.take j) ++ [x, y])) := by have h := hown5; unfold OB at h; rwa [List.length_append] at h
              obtain ⟨A5, c5, rfl⟩ := own_form hown5'
              have x5 : w5.cell? ⟨b, o + j * 2, none⟩ = some (.int .i64 kj) := (hq5.cell (p := ⟨b, o + j * 2, none⟩) hB).trans d0
              have x6 : w5.cell? ⟨b, o + j * 2 + 1, none⟩ = some (.slice A' lj.length c') := (hq5.cell (p := ⟨b, o + j * 2 + 1, none⟩) hB).trans d1
              have z5 : b < w5.heap.size := Nat.lt_of_lt_of_le hbz hq5.size
              refine hK.out _ _ ⟨⟨x5, x6⟩, z5⟩ (fun hHeld => ?_)
              clear hK K
              simp only [Act.put, List.getElem_toArray, List.getElem_cons_succ, List.getElem_cons_zero, List.setIfInBounds_toArray, List.set_cons_zero, List.set_cons_succ]
              have HO5 := Lib.hid (show OB w5 w.heap.size (.slice A5 ((encA (es.take j)).length + 2) c5) (encA (es.take j) ++ [x, y]) from hown5)
              have HQ5 := Lib.hid hq5
              clear hown5 hown5' hb5 hq5
              refine wpAnyH_take (i := 17) (v := ?_) rfl (by kernel_rfl) (by kernel_rfl) (by kernel_rfl) (fun _ _ _ h => h) (Or.inl ⟨by rfl, ?_⟩) (by assumption) ?_
              rotate_left
              · intro w hSw
                (try dsimp only at hSw)
                go_simp
                first | done | with_reducible rfl
              simp only [Act.put, List.getElem_toArray, List.getElem_cons_succ, List.getElem_cons_zero, List.setIfInBounds_toArray, List.set_cons_zero, List.set_cons_succ]
              refine wpAnyH_done (by kernel_rfl) ?_ _
              refine NoPanic.normal ?_
              clear x5 hHeld d0 d1
              go_wp2_with (first
                | (at_builtin
                   refine app_by _ elB rfl (.tmp 63) (.tmp 68) rfl rfl HO5.out rfl (HBS.out.below HQ5.out) ?_ ?_ ?_
                   (case refine_1 => simp; omega)
                   (case refine_2 => exact Nat.le_trans zw HQ5.out.size)
                   intro v2 w2 hown2 hb2))
              go_roundw
              case rel =>
                refine ⟨j + 1, by omega, by rw [IntWalk.wrap64_in ((j : Int) + 1) (by have := HLE.out; omega)]; go_num, ?_, ?_, (HBX.out.trans HQ5.out).trans hb2⟩
                · rw [HT2.out]
                  exact hown2
                · rw [HT2.out]
                  simp
                  omega
              case measure => rw [IntWalk.wrap64_in ((j : Int) + 1) (by have := HLE.out; omega)]; simp [intOf]; omega
        · have hje : j = es.length := by omega
          subst hje
          rw [List.take_length] at *
          clear hob hbel h64
          by_cases hb31 : 31 < (encA es).length
          · have hdb : decide ((31 : Int) < ((encA es).length : Int)) = true := decide_eq_true (by omega)
            have HL := Lib.hid (encE_long HNO2.out hb31)
            clear hb31
            go_wp2_with fail
            exact HQ.out _ _ ⟨HBX.out, _, by rw [HL.out.1]; rfl, by rw [HL.out.2]; exact .nil _ _⟩
          · have hdb : decide ((31 : Int) < ((encA es).length : Int)) = false := decide_eq_false (by omega)
            have HL := Lib.hid (encE_ok HNO2.out hb31)
            clear hb31
            go_wp2_with fail
            exact HQ.out _ _ ⟨HBX.out, _, by rw [HL.out.1]; rfl, by rw [HL.out.2]; exact BS.of_own rfl HOB.out⟩
end Go.Proofs.Ytncenlmfhnljgaa
