/- The walks of transport.Acks, Acked and Again at every state. No condition but the sizes. -/
import Derived.Test.YtkpjinkkjbljkaaTaS
import Derived.Deep.RegionHeld3
import Derived.Deep.DeepCutAuto
import Derived.Test.YtkpjinkkjbljkaaTq5
import Derived.Deep.QuietTactic
import Derived.BigQuiet
import Derived.StillTailTactics
namespace Go.Proofs.Ytkpjinkkjbljkaa
open Go.RowKit

set_option maxRecDepth 100000 in
set_option maxHeartbeats 8000000 in
theorem acks_any (os : List OutS) (is : List InS) (now : Int) (v u : Value) (w : World) (hv : RowV outCs 10 OutS.parts w w.heap.size v os) (hu : RowV inCs 11 InS.parts w w.heap.size u is) (ho : Sized (os.map OutS.parts)) (hi : Sized (is.map InS.parts)) :
    Calls Try.prog 26 #[.agg #[v, u], .int .i64 now] w (AcksPost os is now w) := by
  obtain ⟨A1, c1, rfl⟩ := rowV_form hv
  obtain ⟨A2, c2, rfl⟩ := rowV_form hu
  have hiN : is.length ≤ 65536 := by have := hi.1; simpa using this
  have CL := Lib.hid (fun (W : World) (hW : Below w.heap.size w W) => clone_any2 os is (.slice A1 os.length c1) (.slice A2 is.length c2) W (hv.on hW) (hu.on hW) ho hi)
  have HQ := Lib.hid (show ∀ (e : Ending) (w' : World), (Below w.heap.size w w' ∧ ∃ v u x, e = .returned (.tuple #[.agg #[v, u], x]) ∧
    RowV2 outCs 10 OutS.parts w' w.heap.size w'.heap.size v os ∧ RowV2 inCs 11 InS.parts w' w.heap.size w'.heap.size u (acksI is now) ∧ OutwsV2 w' w.heap.size w'.heap.size x (acksO is now)) → AcksPost os is now w e w' from fun _ _ h => h)
  generalize AcksPost os is now w = Q at *
  generalize hN : os.length = N at *
  generalize hM : is.length = M at *
  have HN := Lib.hid hN
  have HM := Lib.hid hM
  clear hN hM hv hu ho hi
  go_enter Try.func26, Try.ntmps26
  go_upto_region 1 with fail
  obtain ⟨W, hW⟩ : ∃ W, W = (w.alloc (.cells #[.slice A1 N c1, .slice A2 M c2] 47)).alloc (.cells #[.slice none 0 0, .slice none 0 0] 47) := ⟨_, rfl⟩
  have hA : Below w.heap.size w W := by rw [hW]; exact al2 _ _ _
  have hb0 : Box W w.heap.size [.slice A1 N c1, .slice A2 M c2] := by rw [hW]; exact (Box.new _ _ _).alloc _
  have hb1 : Box W (w.heap.size + 1) [.slice none 0 0, .slice none 0 0] := ⟨47, by rw [hW, heap_al, if_pos (by simp)]⟩
  rw [← hW]
  clear hW
  have HA := Lib.hid hA
  have H0 := Lib.hid hb0
  have H1 := Lib.hid hb1
  have p0 := hb0.cell (j := 0) rfl
  have p1 := hb0.cell (j := 1) rfl
  clear hA hb0 hb1
  go_wp2_with fail
  refine (CL.out _ HA.out).mono ?_
  rintro e w2 ⟨hb2, g, q, xs, ys, rfl, hog, hom, hoh, him, hcr⟩
  rw [HN.out] at hog
  rw [HM.out] at hoh
  have HK := Lib.hid (KSt.start HN.out HM.out HA.out H0.out rfl H1.out (by omega) (Nat.le_refl _) (Nat.le_succ _) hb2 hog hom hoh him hcr)
  have e0 := (H0.out.on hb2).cell (j := 0) rfl
  have e1 := (H0.out.on hb2).cell (j := 1) rfl
  have f0 := (H0.out.on hb2).free 0
  have f1 := (H0.out.on hb2).free 1
  have z0 := (H0.out.on hb2).lt
  rw [HN.out, HM.out]
  clear hb2 hog hom hoh him hcr p0 p1
  go_upto_region 2 with fail
  obtain ⟨Z, hZ⟩ : ∃ Z, Z = w2.setCells w.heap.size 0 [.slice (some ⟨g, 0, none⟩) N N, .slice (some ⟨q, 0, none⟩) M M] := ⟨_, rfl⟩
  rw [← hZ] at HK
  rw [show (w2.setCell ⟨w.heap.size, 0, none⟩ (.slice (some ⟨g, 0, none⟩) N N)).setCell ⟨w.heap.size, 1, none⟩ (.slice (some ⟨q, 0, none⟩) M M) = Z from hZ.symm]
  clear hZ e0 e1 f0 f1 z0 H0 H1 HA CL
  generalize W.heap.size = B at *
  have p1 := HK.out.bt.cell (j := 1) rfl
  go_wp2_with fail
  go_loopw [15, 6] (fun i o wr => ∃ k : Nat, k ≤ M ∧ i = .int .i64 k ∧ KSt os (acksAt is now k) w wr B w.heap.size (w.heap.size + 1) g q N M xs ys ∧ OwnOutw wr B o (acksO (is.take k) now)) (fun i _ _ => M - (intOf i).toNat)
  case atStart => exact ⟨0, Nat.zero_le _, rfl, HK.out, OwnM.nil _ _⟩
  clear HK p1
  case round =>
    obtain ⟨k, hk, rfl, hK, hO⟩ := hrel
    have HK := Lib.hid hK
    have HO := Lib.hid hO
    by_cases hlt : k < M
    · have hki : k < is.length := by rw [HM.out]; exact hlt
      have hx := List.getElem?_eq_getElem hki
      obtain ⟨y, hy⟩ : ∃ y, ys[k]? = some y := ⟨_, List.getElem?_eq_getElem (by rw [hK.im.1, acksAt_len is now (by omega)]; omega)⟩
      have hxa := acksAt_at (now := now) hx
      generalize is[k] = x at *
      have HX := Lib.hid hx
      have HXA := Lib.hid hxa
      have HY := Lib.hid hy
      obtain ⟨xs1, xd1, xa1, xz1, xi1, xl1, xp1, xb1, xdu1, xt1, xf1⟩ := x
      have p1 := hK.bt.cell (j := 1) rfl
      have d0 : wr.cell? ⟨q, k * 11, none⟩ = some (.int .u16 (xs1 : Int)) := hK.inCell (j := 0) hxa hy rfl
      have d1 : wr.cell? ⟨q, k * 11 + 1, none⟩ = some (.int .u16 (xd1 : Int)) := hK.inCell (j := 1) hxa hy rfl
      have d3 : wr.cell? ⟨q, k * 11 + 3, none⟩ = some (.int .u32 (xz1 : Int)) := hK.inCell (j := 3) hxa hy rfl
      have d7 : wr.cell? ⟨q, k * 11 + 7, none⟩ = some (.int .u32 (xb1 : Int)) := hK.inCell (j := 7) hxa hy rfl
      have d8 : wr.cell? ⟨q, k * 11 + 8, none⟩ = some (.int .i64 xdu1) := hK.inCell (j := 8) hxa hy rfl
      have d9 : wr.cell? ⟨q, k * 11 + 9, none⟩ = some (.int .i64 xt1) := hK.inCell (j := 9) hxa hy rfl
      have f8 := hK.ih.frozenAt (k * 11 + 8)
      have zh := (hK.ih.lt q rfl).2
      clear hK hO hx hxa hy
      have HD := Lib.hid (show dueB now ⟨xs1, xd1, xa1, xz1, xi1, xl1, xp1, xb1, xdu1, xt1, xf1⟩ = (decide (1 ≤ xdu1) && decide (xdu1 ≤ max 1 now)) from rfl)
      generalize dueB now ⟨xs1, xd1, xa1, xz1, xi1, xl1, xp1, xb1, xdu1, xt1, xf1⟩ = dd at *
      have HDD := Lib.hid (show dueB now ⟨xs1, xd1, xa1, xz1, xi1, xl1, xp1, xb1, xdu1, xt1, xf1⟩ = dd from HD.out.symm)
      go_upto_region 7 with fail
      obtain ⟨wo, rfl⟩ : ∃ wo : World, wo = wr := ⟨_, rfl⟩
      go_cut [35] (fun t wx => t = .bool (!dd) ∧ wx = wo)
      case first =>
        go_wp2_with fail
        all_goals go_meet
        all_goals
          refine ⟨?_, rfl⟩
          rcases dd with _ | _ <;> (have hq := HD.out; simp at hq ⊢; try omega)
      case rest =>
        obtain ⟨rfl, rfl⟩ := hcut
        rcases dd with _ | _
        · go_wp2_with fail
          go_roundw
          case rel => exact ⟨k + 1, by omega, by go_num, by rw [acksAt_same HX.out HDD.out]; exact HK.out, by rw [acksO_no HX.out HDD.out]; exact HO.out⟩
          case measure => simp [intOf]; omega
        · go_upto_region 9 with fail
          obtain ⟨Y, hY⟩ : ∃ Y, Y = wc.setCell ⟨q, k * 11 + 8, none⟩ (.int .i64 0) := ⟨_, rfl⟩
          have hak : ackI now ⟨xs1, xd1, xa1, xz1, xi1, xl1, xp1, xb1, xdu1, xt1, xf1⟩ = ⟨xs1, xd1, xa1, xz1, xi1, xl1, xp1, xb1, 0, xt1, xf1⟩ := if_pos HDD.out
          have hKY : KSt os (acksAt is now (k + 1)) w Y B w.heap.size (w.heap.size + 1) g q N M xs ys := by
            rw [hY, ← acksAt_succ HX.out, hak]
            exact HK.out.setIn HXA.out HY.out (by omega) rfl rfl
          have HKY := Lib.hid hKY
          have HOY := Lib.hid (show OwnOutw Y B u6 (acksO (is.take k) now) by rw [hY]; exact HO.out.grown HK.out.ih (by decide) (by decide) (HK.out.ih.stored _ _).2)
          have hxa : (acksAt is now (k + 1))[k]? = some ⟨xs1, xd1, xa1, xz1, xi1, xl1, xp1, xb1, 0, xt1, xf1⟩ := by
            rw [← acksAt_succ HX.out, hak]
            exact List.getElem?_set_self (by rw [acksAt_len is now (by omega)]; exact hki)
          have hlY : (acksO (is.take k) now).length ≤ k := Nat.le_trans (acksO_len _ _) (by rw [List.length_take]; omega)
          rw [← hY]
          clear hY d0 d1 d3 d7 d8 d9 f8 zh p1
          have d0 : Y.cell? ⟨q, k * 11, none⟩ = some (.int .u16 (xs1 : Int)) := hKY.inCell (j := 0) hxa HY.out rfl
          have d1 : Y.cell? ⟨q, k * 11 + 1, none⟩ = some (.int .u16 (xd1 : Int)) := hKY.inCell (j := 1) hxa HY.out rfl
          have d3 : Y.cell? ⟨q, k * 11 + 3, none⟩ = some (.int .u32 (xz1 : Int)) := hKY.inCell (j := 3) hxa HY.out rfl
          have d7 : Y.cell? ⟨q, k * 11 + 7, none⟩ = some (.int .u32 (xb1 : Int)) := hKY.inCell (j := 7) hxa HY.out rfl
          have d9 : Y.cell? ⟨q, k * 11 + 9, none⟩ = some (.int .i64 xt1) := hKY.inCell (j := 9) hxa HY.out rfl
          have zh := (hKY.ih.lt q rfl).2
          have HXB := Lib.hid hxa
          clear hKY hxa
          obtain ⟨yo, rfl⟩ : ∃ yo : World, yo = Y := ⟨_, rfl⟩
          go_upto_if 43 with fail
          go_cut [9] (fun t wx => t = .int .i64 (if xt1 = 0 then 0 else 127) ∧ wx = yo)
          case first =>
            go_wp2_with fail
            all_goals go_meet
            all_goals
              refine ⟨?_, rfl⟩
              simp_all
          case rest =>
            obtain ⟨rfl, rfl⟩ := hcut
            have HT := Lib.hid (show ackO ⟨xs1, xd1, xa1, xz1, xi1, xl1, xp1, xb1, xdu1, xt1, xf1⟩ = (⟨xd1, xs1, if xt1 = 0 then 0 else 127, ⟨true, false, false, ((xz1 % 8192 : Nat) : Int), 0, 0, 0, xb1, false⟩⟩, []) from rfl)
            generalize (if xt1 = 0 then (0 : Int) else 127) = tt at *
            have hw2 : IntKind.i64.wrap (((xz1 % 8192 : Nat) : Int)) = ((xz1 % 8192 : Nat) : Int) := IntWalk.i64_in _ (by omega)
            have ht : ((xz1 : Int).tmod 8192) = ((xz1 % 8192 : Nat) : Int) := by rw [Int.tmod_eq_emod_of_nonneg (by omega)]; omega
            generalize xz1 % 8192 = zz at *
            obtain ⟨us, k1, k2, k3⟩ := HOY.out
            obtain ⟨A5, c5, hpf⟩ := own_form k2
            subst hpf
            have HLE := Lib.hid hlY
            generalize hln : (acksO (is.take k) now).length = ln at *
            have HLN := Lib.hid hln
            have HU1 := Lib.hid k1
            have HU2 := Lib.hid k2
            have HU3 := Lib.hid k3
            have zB := HKY.out.lt.2.2.2.2.2
            clear hln k1 k2 k3 hlY
            go_wp2_with fail
            refine wp_region_noPanic ?_
            refine wp_region_held_drew (S := fun w' => (w'.cell? ⟨q, k * 11, none⟩ = some (.int .u16 (xs1 : Int)) ∧ w'.cell? ⟨q, k * 11 + 1, none⟩ = some (.int .u16 (xd1 : Int)) ∧ w'.cell? ⟨q, k * 11 + 3, none⟩ = some (.int .u32 (xz1 : Int)) ∧ w'.cell? ⟨q, k * 11 + 7, none⟩ = some (.int .u32 (xb1 : Int))) ∧ q < w'.heap.size) (by kernel_rfl) (by (go_keep; try omega)) (fun hHeld => ?_)
            refine wpAnyH_take (i := 0) (v := ?_) rfl (by kernel_rfl) (by kernel_rfl) (by kernel_rfl) (fun _ _ _ h => h) (Or.inl ⟨by rfl, ?_⟩) (by assumption) ?_
            rotate_left
            · intro w hSw
              (try dsimp only at hSw)
              go_simp
              first | done | with_reducible rfl
            simp only [Act.put, List.getElem_toArray, List.getElem_cons_zero, List.setIfInBounds_toArray, List.set_cons_zero, List.set_cons_succ]
            refine wpAnyH_take (i := 1) (v := ?_) rfl (by kernel_rfl) (by kernel_rfl) (by kernel_rfl) (fun _ _ _ h => h) (Or.inl ⟨by rfl, ?_⟩) (by assumption) ?_
            rotate_left
            · intro w hSw
              (try dsimp only at hSw)
              go_simp
              first | done | with_reducible rfl
            simp only [Act.put, List.getElem_toArray, List.getElem_cons_succ, List.getElem_cons_zero, List.setIfInBounds_toArray, List.set_cons_zero, List.set_cons_succ]
            refine wpAnyH_take (i := 2) (v := ?_) rfl (by kernel_rfl) (by kernel_rfl) (by kernel_rfl) (fun _ _ _ h => h) (Or.inl ⟨by rfl, ?_⟩) (by assumption) ?_
            rotate_left
            · intro w hSw
              (try dsimp only at hSw)
              go_simp
              first | done | with_reducible rfl
            simp only [Act.put, List.getElem_toArray, List.getElem_cons_succ, List.getElem_cons_zero, List.setIfInBounds_toArray, List.set_cons_zero, List.set_cons_succ]
            refine wpAnyH_take (i := 3) (v := ?_) rfl (by kernel_rfl) (by kernel_rfl) (by kernel_rfl) (fun _ _ _ h => h) (Or.inl ⟨by rfl, ?_⟩) (by assumption) ?_
            rotate_left
            · intro w hSw
              (try dsimp only at hSw)
              go_simp
              first | done | with_reducible rfl
            simp only [Act.put, List.getElem_toArray, List.getElem_cons_succ, List.getElem_cons_zero, List.setIfInBounds_toArray, List.set_cons_zero, List.set_cons_succ]
            refine wpAnyH_take (i := 4) (v := ?_) rfl (by kernel_rfl) (by kernel_rfl) (by kernel_rfl) (fun _ _ _ h => h) (Or.inl ⟨by rfl, ?_⟩) (by assumption) ?_
            rotate_left
            · intro w hSw
              (try dsimp only at hSw)
              go_simp
              first | done | with_reducible rfl
            simp only [Act.put, List.getElem_toArray, List.getElem_cons_succ, List.getElem_cons_zero, List.setIfInBounds_toArray, List.set_cons_zero, List.set_cons_succ]
            refine wpAnyH_take (i := 5) (v := ?_) rfl (by kernel_rfl) (by kernel_rfl) (by kernel_rfl) (fun _ _ _ h => h) (Or.inl ⟨by rfl, ?_⟩) (by assumption) ?_
            rotate_left
            · intro w hSw
              (try dsimp only at hSw)
              go_simp
              first | done | with_reducible rfl
            simp only [Act.put, List.getElem_toArray, List.getElem_cons_succ, List.getElem_cons_zero, List.setIfInBounds_toArray, List.set_cons_zero, List.set_cons_succ]
            refine wpAnyH_take (i := 6) (v := ?_) rfl (by kernel_rfl) (by kernel_rfl) (by kernel_rfl) (fun _ _ _ h => h) (Or.inl ⟨by rfl, ?_⟩) (by assumption) ?_
            rotate_left
            · intro w hSw
              (try dsimp only at hSw)
              go_simp
              first | done | with_reducible rfl
            simp only [Act.put, List.getElem_toArray, List.getElem_cons_succ, List.getElem_cons_zero, List.setIfInBounds_toArray, List.set_cons_zero, List.set_cons_succ]
            refine wpAnyH_take (i := 7) (v := ?_) rfl (by kernel_rfl) (by kernel_rfl) (by kernel_rfl) (fun _ _ _ h => h) (Or.inl ⟨by rfl, ?_⟩) (by assumption) ?_
            rotate_left
            · intro w hSw
              (try dsimp only at hSw)
              go_simp
              first | done | with_reducible rfl
            simp only [Act.put, List.getElem_toArray, List.getElem_cons_succ, List.getElem_cons_zero, List.setIfInBounds_toArray, List.set_cons_zero, List.set_cons_succ]
            refine wpAnyH_take (i := 8) (v := ?_) rfl (by kernel_rfl) (by kernel_rfl) (by kernel_rfl) (fun _ _ _ h => h) (Or.inl ⟨by rfl, ?_⟩) (by assumption) ?_
            rotate_left
            · intro w hSw
              (try dsimp only at hSw)
              go_simp
              first | done | with_reducible rfl
            simp only [Act.put, List.getElem_toArray, List.getElem_cons_succ, List.getElem_cons_zero, List.setIfInBounds_toArray, List.set_cons_zero, List.set_cons_succ]
            refine wpAnyH_take (i := 9) (v := ?_) rfl (by kernel_rfl) (by kernel_rfl) (by kernel_rfl) (fun _ _ _ h => h) (Or.inl ⟨by rfl, ?_⟩) (by assumption) ?_
            rotate_left
            · intro w hSw
              (try dsimp only at hSw)
              go_simp
              first | done | with_reducible rfl
            simp only [Act.put, List.getElem_toArray, List.getElem_cons_succ, List.getElem_cons_zero, List.setIfInBounds_toArray, List.set_cons_zero, List.set_cons_succ]
            refine wpAnyH_take (i := 10) (v := ?_) rfl (by kernel_rfl) (by kernel_rfl) (by kernel_rfl) (fun _ _ _ h => h) (Or.inl ⟨by rfl, ?_⟩) (by assumption) ?_
            rotate_left
            · intro w hSw
              (try dsimp only at hSw)
              go_simp
              first | done | with_reducible rfl
            simp only [Act.put, List.getElem_toArray, List.getElem_cons_succ, List.getElem_cons_zero, List.setIfInBounds_toArray, List.set_cons_zero, List.set_cons_succ]
            refine wpAnyH_take (i := 11) (v := ?_) rfl (by kernel_rfl) (by kernel_rfl) (by kernel_rfl) (fun _ _ _ h => h) (Or.inl ⟨by rfl, ?_⟩) (by assumption) ?_
            rotate_left
            · intro w hSw
              (try dsimp only at hSw)
              go_simp
              first | done | with_reducible rfl
            simp only [Act.put, List.getElem_toArray, List.getElem_cons_succ, List.getElem_cons_zero, List.setIfInBounds_toArray, List.set_cons_zero, List.set_cons_succ]
            refine wpAnyH_take (i := 12) (v := ?_) rfl (by kernel_rfl) (by kernel_rfl) (by kernel_rfl) (fun _ _ _ h => h) (Or.inl ⟨by rfl, ?_⟩) (by assumption) ?_
            rotate_left
            · intro w hSw
              (try dsimp only at hSw)
              go_simp
              first | done | with_reducible rfl
            simp only [Act.put, List.getElem_toArray, List.getElem_cons_succ, List.getElem_cons_zero, List.setIfInBounds_toArray, List.set_cons_zero, List.set_cons_succ]
            refine wpAnyH_take (i := 13) (v := ?_) rfl (by kernel_rfl) (by kernel_rfl) (by kernel_rfl) (fun _ _ _ h => h) (Or.inl ⟨by rfl, ?_⟩) (by assumption) ?_
            rotate_left
            · intro w hSw
              (try dsimp only at hSw)
              go_simp
              first | done | with_reducible rfl
            simp only [Act.put, List.getElem_toArray, List.getElem_cons_succ, List.getElem_cons_zero, List.setIfInBounds_toArray, List.set_cons_zero, List.set_cons_succ]
            refine wpAnyH_take (i := 14) (v := ?_) rfl (by kernel_rfl) (by kernel_rfl) (by kernel_rfl) (fun _ _ _ h => h) (Or.inl ⟨by rfl, ?_⟩) (by assumption) ?_
            rotate_left
            · intro w hSw
              (try dsimp only at hSw)
              go_simp
              first | done | with_reducible rfl
            simp only [Act.put, List.getElem_toArray, List.getElem_cons_succ, List.getElem_cons_zero, List.setIfInBounds_toArray, List.set_cons_zero, List.set_cons_succ]
            refine wpAnyH_take (i := 15) (v := ?_) rfl (by kernel_rfl) (by kernel_rfl) (by kernel_rfl) (fun _ _ _ h => h) (Or.inl ⟨by rfl, ?_⟩) (by assumption) ?_
            rotate_left
            · intro w hSw
              (try dsimp only at hSw)
              go_simp
              first | done | with_reducible rfl
            simp only [Act.put, List.getElem_toArray, List.getElem_cons_succ, List.getElem_cons_zero, List.setIfInBounds_toArray, List.set_cons_zero, List.set_cons_succ]
            refine wpAnyH_take (i := 16) (v := ?_) rfl (by kernel_rfl) (by kernel_rfl) (by kernel_rfl) (fun _ _ _ h => h) (Or.inl ⟨by rfl, ?_⟩) (by assumption) ?_
            rotate_left
            · intro w hSw
              (try dsimp only at hSw)
              go_simp
              first | done | with_reducible rfl
            simp only [Act.put, List.getElem_toArray, List.getElem_cons_succ, List.getElem_cons_zero, List.setIfInBounds_toArray, List.set_cons_zero, List.set_cons_succ]
            refine wpAnyH_take (i := 17) (v := ?_) rfl (by kernel_rfl) (by kernel_rfl) (by kernel_rfl) (fun _ _ _ h => h) (Or.inl ⟨by rfl, ?_⟩) (by assumption) ?_
            rotate_left
            · intro w hSw
              (try dsimp only at hSw)
              go_simp
              first | done | with_reducible rfl
            simp only [Act.put, List.getElem_toArray, List.getElem_cons_succ, List.getElem_cons_zero, List.setIfInBounds_toArray, List.set_cons_zero, List.set_cons_succ]
            refine wpAnyH_take (i := 18) (v := ?_) rfl (by kernel_rfl) (by kernel_rfl) (by kernel_rfl) (fun _ _ _ h => h) (Or.inl ⟨by rfl, ?_⟩) (by assumption) ?_
            rotate_left
            · intro w hSw
              (try dsimp only at hSw)
              go_simp
              first | done | with_reducible rfl
            simp only [Act.put, List.getElem_toArray, List.getElem_cons_succ, List.getElem_cons_zero, List.setIfInBounds_toArray, List.set_cons_zero, List.set_cons_succ]
            refine wpAnyH_take (i := 19) (v := ?_) rfl (by kernel_rfl) (by kernel_rfl) (by kernel_rfl) (fun _ _ _ h => h) (Or.inl ⟨by rfl, ?_⟩) (by assumption) ?_
            rotate_left
            · intro w hSw
              (try dsimp only at hSw)
              go_simp
              first | done | with_reducible rfl
            simp only [Act.put, List.getElem_toArray, List.getElem_cons_succ, List.getElem_cons_zero, List.setIfInBounds_toArray, List.set_cons_zero, List.set_cons_succ]
            refine wpAnyH_take (i := 20) (v := ?_) rfl (by kernel_rfl) (by kernel_rfl) (by kernel_rfl) (fun _ _ _ h => h) (Or.inl ⟨by rfl, ?_⟩) (by assumption) ?_
            rotate_left
            · intro w hSw
              (try dsimp only at hSw)
              go_simp
              first | done | with_reducible rfl
            simp only [Act.put, List.getElem_toArray, List.getElem_cons_succ, List.getElem_cons_zero, List.setIfInBounds_toArray, List.set_cons_zero, List.set_cons_succ]
            refine wpAnyH_take (i := 21) (v := ?_) rfl (by kernel_rfl) (by kernel_rfl) (by kernel_rfl) (fun _ _ _ h => h) (Or.inl ⟨by rfl, ?_⟩) (by assumption) ?_
            rotate_left
            · intro w hSw
              (try dsimp only at hSw)
              go_simp
              first | done | with_reducible rfl
            simp only [Act.put, List.getElem_toArray, List.getElem_cons_succ, List.getElem_cons_zero, List.setIfInBounds_toArray, List.set_cons_zero, List.set_cons_succ]
            refine wpAnyH_ready (rs := [22]) (by kernel_rfl) (by simp) ?_
            refine AllReadyH.cons rfl (fun K hK => ?_) AllReadyH.nil
            go_simp
            first | (refine hK.out _ _ ?_ (fun hHeld => ?_)) | (go_wp2_with fail; refine hK.out _ _ ?_ (fun hHeld => ?_))
            · (go_keep; try omega)
            clear hK K
            try simp only [Act.put, List.getElem_toArray, List.getElem_cons_succ, List.getElem_cons_zero, List.setIfInBounds_toArray, List.set_cons_zero, List.set_cons_succ]
            refine wpAnyH_ready (rs := [23]) (by kernel_rfl) (by simp) ?_
            refine AllReadyH.cons rfl (fun K hK => ?_) AllReadyH.nil
            refine step_sl _ elOw rfl (.tmp 44) (.tmp 66) rfl rfl (HU2.out.alloc _) rfl (Sl.lit _ _ _ 1 rfl (by simp [maxLen])) ?_ ?_ ?_ ?_
            · exact owF_one (⟨xd1, xs1, tt, ⟨true, false, false, (zz : Int), 0, 0, 0, xb1, false⟩⟩, []) rfl
            · have := HLE.out; omega
            · exact Nat.le_trans zB (by simp)
            intro v9 w9 hown9 hg9 _ _
            have hK9 := (HKY.out.on ((al1 _ _).drew)).grown (own_drew (HU2.out.alloc (.cells #[.int .u16 (xd1 : Int), .int .u16 (xs1 : Int), .int .i64 tt, .bool true, .bool false, .bool false, .int .i64 (zz : Int), .int .i64 0, .int .i64 0, .int .i64 0, .int .u32 (xb1 : Int), .bool false, .slice none 0 0] 65))) (Nat.le_refl _) (Nat.le_trans zB (Nat.le_of_lt (by rw [World.size_drew, World.size_alloc]; exact Nat.lt_succ_self _))) (by decide) (by decide) (by decide) (by decide) hg9
            have hO9 : OwnOutw w9 B v9 (acksO (is.take (k + 1)) now) := by
              rw [acksO_yes HX.out HDD.out, HT.out]
              exact ownM_snoc (u := .slice none 0 0) (by rw [HU1.out, HLN.out]) HLN.out.symm (by decide) (own_drew (HU2.out.alloc _)) (fun i p u hp hu => own_drew ((HU3.out i p u hp hu).alloc _)) (World.ownsRow_nil _ _ _ _) hown9 hg9
            have HK9 := Lib.hid hK9
            have HO9 := Lib.hid hO9
            obtain ⟨A6, c6, rfl⟩ := own_form hown9
            have x0 : w9.cell? ⟨q, k * 11, none⟩ = some (.int .u16 (xs1 : Int)) := hK9.inCell (j := 0) HXB.out HY.out rfl
            have x1 : w9.cell? ⟨q, k * 11 + 1, none⟩ = some (.int .u16 (xd1 : Int)) := hK9.inCell (j := 1) HXB.out HY.out rfl
            have x3 : w9.cell? ⟨q, k * 11 + 3, none⟩ = some (.int .u32 (xz1 : Int)) := hK9.inCell (j := 3) HXB.out HY.out rfl
            have x7 : w9.cell? ⟨q, k * 11 + 7, none⟩ = some (.int .u32 (xb1 : Int)) := hK9.inCell (j := 7) HXB.out HY.out rfl
            have z9 := (hK9.ih.lt q rfl).2
            clear hK9 hO9 hown9 hg9
            refine hK.out _ _ ⟨⟨x0, x1, x3, x7⟩, z9⟩ (fun hHeld => ?_)
            clear hK K
            simp only [Act.put, List.getElem_toArray, List.getElem_cons_succ, List.getElem_cons_zero, List.setIfInBounds_toArray, List.set_cons_zero, List.set_cons_succ]
            refine wpAnyH_take (i := 24) (v := ?_) rfl (by kernel_rfl) (by kernel_rfl) (by kernel_rfl) (fun _ _ _ h => h) (Or.inl ⟨by rfl, ?_⟩) (by assumption) ?_
            rotate_left
            · intro w hSw
              (try dsimp only at hSw)
              go_simp
              first | done | with_reducible rfl
            simp only [Act.put, List.getElem_toArray, List.getElem_cons_succ, List.getElem_cons_zero, List.setIfInBounds_toArray, List.set_cons_zero, List.set_cons_succ]
            refine wpAnyH_done (by kernel_rfl) ?_ _
            refine NoPanic.normal ?_
            clear hHeld x0 x1 x3 x7 d0 d1 d3 d7 d9
            go_wp2_with fail
            go_roundw
            case rel => exact ⟨k + 1, by omega, by go_num, HK9.out, HO9.out⟩
            case measure => simp [intOf]; omega
    · have hkM : k = M := by omega
      subst hkM
      rw [← HM.out, acksAt_all] at hK
      rw [← HM.out, List.take_length] at hO
      rw [HM.out] at hK
      have HK1 := Lib.hid hK
      have HO1 := Lib.hid hO
      have p0 := hK.bt.cell (j := 0) rfl
      have p1 := hK.bt.cell (j := 1) rfl
      have e0 := hK.br.cell (j := 0) rfl
      have e1 := hK.br.cell (j := 1) rfl
      have f0 := hK.br.free 0
      have f1 := hK.br.free 1
      have z0 := hK.br.lt
      have HRT := Lib.hid hK.ret
      have HLT := Lib.hid hK.lt.2.1
      clear hK hO HK HO
      go_wp2_with fail
      refine bodyPost_ret (res_tr2 rfl _ _ (w.heap.size + 1) (.slice (some ⟨g, 0, none⟩) N N) (.slice (some ⟨q, 0, none⟩) k k) rfl ?_) rfl (HQ.out _ _ ⟨?_, _, _, _, rfl, ?_, ?_, ?_⟩)
      · exact HRT.out.1
      · exact HRT.out.2.1
      · exact HRT.out.2.2.1
      · exact HRT.out.2.2.2
      · exact ((HO1.out.far HLT.out 0 _).far HLT.out 1 _).upto (by have := HLT.out; omega)

/-- Does an acknowledgement belong to a message? What has been acknowledged with it? -/
def fitB (src : Nat) (p : Low) (o : OutS) : Bool := isNode o.dst && decide (((o.zero % 8192 : Nat) : Int) = p.zero) && (decide (o.dst = src) || p.fr)
def ackedN (p : Low) (o : OutS) : Nat := o.ackd ||| (p.blk &&& full o.parts.length)
def out0 : OutS := ⟨0, 0, false, 0, 0, [], 0, 0, 0, 0⟩
def ackedT (os : List OutS) (src : Nat) (p : Low) (n : Nat) : List OutS × Bool :=
  if isA p = false ∨ chkL p n ≠ 0 then (os, false)
  else match os.findIdx? (fitB src p) with
  | none => (os, false)
  | some i => if ackedN p (os.getD i out0) = full (os.getD i out0).parts.length then (os.eraseIdx i, true) else (os.set i { os.getD i out0 with ackd := ackedN p (os.getD i out0) }, false)
theorem find_miss {os : List OutS} {f : OutS → Bool} {j : Nat} {x : OutS} (h : (os.take j).findIdx? f = none) (hx : os[j]? = some x) (hf : f x = false) : (os.take (j + 1)).findIdx? f = none := by
  obtain ⟨hi, rfl⟩ := List.getElem?_eq_some_iff.1 hx
  rw [List.take_succ_eq_append_getElem hi, List.findIdx?_append, h]
  simp [List.findIdx?_cons, hf]
theorem find_hit {os : List OutS} {f : OutS → Bool} {j : Nat} {x : OutS} (h : (os.take j).findIdx? f = none) (hx : os[j]? = some x) (hf : f x = true) : os.findIdx? f = some j := by
  obtain ⟨hi, rfl⟩ := List.getElem?_eq_some_iff.1 hx
  have h1 : os = os.take j ++ os[j] :: os.drop (j + 1) := by rw [← List.drop_eq_getElem_cons hi, List.take_append_drop]
  have h2 : os.findIdx? f = (os.take j ++ os[j] :: os.drop (j + 1)).findIdx? f := congrArg _ h1
  rw [h2, List.findIdx?_append, h, Option.none_or, List.findIdx?_cons, hf]
  simp
  omega
theorem ackedT_bad {os : List OutS} {src : Nat} {p : Low} {n : Nat} (h : isA p = false ∨ chkL p n ≠ 0) : ackedT os src p n = (os, false) := if_pos h
theorem ackedT_none {os : List OutS} {src : Nat} {p : Low} {n : Nat} (h : os.findIdx? (fitB src p) = none) : ackedT os src p n = (os, false) := by
  unfold ackedT
  split
  · rfl
  · rw [h]
theorem ackedT_yes {os : List OutS} {src : Nat} {p : Low} {n i : Nat} {o : OutS} (h1 : ¬ (isA p = false ∨ chkL p n ≠ 0)) (h : os.findIdx? (fitB src p) = some i) (ho : os[i]? = some o) (hf : ackedN p o = full o.parts.length) : ackedT os src p n = (os.eraseIdx i, true) := by
  unfold ackedT
  rw [if_neg h1, h]
  dsimp only
  rw [List.getD_eq_getElem?_getD, ho, Option.getD_some, if_pos hf]
theorem ackedT_part {os : List OutS} {src : Nat} {p : Low} {n i : Nat} {o : OutS} (h1 : ¬ (isA p = false ∨ chkL p n ≠ 0)) (h : os.findIdx? (fitB src p) = some i) (ho : os[i]? = some o) (hf : ¬ ackedN p o = full o.parts.length) : ackedT os src p n = (os.set i { o with ackd := ackedN p o }, false) := by
  unfold ackedT
  rw [if_neg h1, h]
  dsimp only
  rw [List.getD_eq_getElem?_getD, ho, Option.getD_some, if_neg hf]
/-- What Acked leaves. -/
def AckedPost (is : List InS) (r : List OutS × Bool) (w : World) (e : Ending) (w' : World) : Prop :=
  Below w.heap.size w w' ∧ ∃ v u, e = .returned (.tuple #[.agg #[v, u], .bool r.2]) ∧ RowV2 outCs 10 OutS.parts w' w.heap.size w'.heap.size v r.1 ∧ RowV2 inCs 11 InS.parts w' w.heap.size w'.heap.size u is

set_option maxRecDepth 100000 in
set_option maxHeartbeats 8000000 in
theorem acked_any (os : List OutS) (is : List InS) (src : Nat) (p : Low) (bl : List UInt8) (hbk : p.blk < 4294967296) (v u bv : Value) (w : World) (hv : RowV outCs 10 OutS.parts w w.heap.size v os) (hu : RowV inCs 11 InS.parts w w.heap.size u is) (hbv : BS w w.heap.size bv bl) (ho : Sized (os.map OutS.parts)) (hi : Sized (is.map InS.parts))
    (hack : ∀ o ∈ os, o.ackd < 4294967296 ∧ o.parts.length ≤ 32) :
    Calls Try.prog 27 #[.agg #[v, u], .int .u16 (src : Int), lowV p bv] w (AckedPost is (ackedT os src p bl.length) w) := by
  obtain ⟨A1, c1, rfl⟩ := rowV_form hv
  obtain ⟨A2, c2, rfl⟩ := rowV_form hu
  obtain ⟨A, c, rfl, _⟩ := id hbv
  have hiN : os.length ≤ 65536 := by have := ho.1; simpa using this
  have CL := Lib.hid (fun (W : World) (hW : Below w.heap.size w W) => clone_any2 os is (.slice A1 os.length c1) (.slice A2 is.length c2) W (hv.on hW) (hu.on hW) ho hi)
  have CI := Lib.hid (isAck_any p (.slice A bl.length c))
  have CK := Lib.hid (tcheck_any p A bl.length c)
  have HACK := Lib.hid hack
  have HB := Lib.hid (fun h => ackedT_bad (os := os) (src := src) (p := p) (n := bl.length) h)
  have HNO := Lib.hid (fun h => ackedT_none (os := os) (src := src) (p := p) (n := bl.length) h)
  have HYE := Lib.hid (fun i o h1 h2 h3 h4 => ackedT_yes (os := os) (src := src) (p := p) (n := bl.length) (i := i) (o := o) h1 h2 h3 h4)
  have HPA := Lib.hid (fun i o h1 h2 h3 h4 => ackedT_part (os := os) (src := src) (p := p) (n := bl.length) (i := i) (o := o) h1 h2 h3 h4)
  generalize hr : ackedT os src p bl.length = r at *
  have HQ := Lib.hid (show ∀ (e : Ending) (w' : World), (Below w.heap.size w w' ∧ ∃ v u, e = .returned (.tuple #[.agg #[v, u], .bool r.2]) ∧ RowV2 outCs 10 OutS.parts w' w.heap.size w'.heap.size v r.1 ∧ RowV2 inCs 11 InS.parts w' w.heap.size w'.heap.size u is) → AckedPost is r w e w' from fun _ _ h => h)
  generalize AckedPost is r w = Q at *
  generalize hE : chkL p bl.length = E at *
  generalize hI : isA p = ia at *
  generalize hN : os.length = N at *
  generalize hM : is.length = M at *
  generalize bl.length = n at *
  have HN := Lib.hid hN
  have HM := Lib.hid hM
  clear hr hE hI hN hM hv hu ho hi hbv hack
  obtain ⟨ct, sg, ap, ze, ix, la, op, bk, fr⟩ := p
  dsimp only at hbk
  go_enter Try.func27, Try.ntmps27
  go_upto_region 1 with fail
  obtain ⟨W, hW⟩ : ∃ W, W = ((w.alloc (.cells #[.slice A1 N c1, .slice A2 M c2] 47)).alloc (.cells #[.bool ct, .bool sg, .bool ap, .int .i64 ze, .int .i64 ix, .int .i64 la, .int .i64 op, .int .u32 (bk : Int), .bool fr, .slice A n c] 25)).alloc (.cells #[.slice none 0 0, .slice none 0 0] 47) := ⟨_, rfl⟩
  have hA : Below w.heap.size w W := by rw [hW]; exact al3 _ _ _ _
  have hb0 : Box W w.heap.size [.slice A1 N c1, .slice A2 M c2] := by rw [hW]; exact ((Box.new _ _ _).alloc _).alloc _
  have hb1 : Box W (w.heap.size + 1) (lowCs ⟨ct, sg, ap, ze, ix, la, op, bk, fr⟩ (.slice A n c)) := ⟨25, by rw [hW, heap_al, if_neg (by simp), heap_al, if_pos (by simp)]⟩
  have hb2 : Box W (w.heap.size + 1 + 1) [.slice none 0 0, .slice none 0 0] := ⟨47, by rw [hW, heap_al, if_pos (by simp)]⟩
  rw [← hW]
  clear hW
  have HA := Lib.hid hA
  have H0 := Lib.hid hb0
  have H1 := Lib.hid hb1
  have H2 := Lib.hid hb2
  have p0 := hb0.cell (j := 0) rfl
  have p1 := hb0.cell (j := 1) rfl
  clear hA hb0 hb1 hb2
  go_wp2_with fail
  refine (CL.out _ HA.out).mono ?_
  rintro e w2 ⟨hb2, g, q, xs, ys, rfl, hog, hom, hoh, him, hcr⟩
  rw [HN.out] at hog
  rw [HM.out] at hoh
  have HK := Lib.hid (KSt.start HN.out HM.out HA.out H0.out rfl H2.out (by omega) (Nat.le_refl _) (Nat.le_trans (Nat.le_succ _) (Nat.le_succ _)) hb2 hog hom hoh him hcr)
  have e0 := (H0.out.on hb2).cell (j := 0) rfl
  have e1 := (H0.out.on hb2).cell (j := 1) rfl
  have f0 := (H0.out.on hb2).free 0
  have f1 := (H0.out.on hb2).free 1
  have z0 := (H0.out.on hb2).lt
  have HL := Lib.hid (show Box (w2.setCells w.heap.size 0 [.slice (some ⟨g, 0, none⟩) N N, .slice (some ⟨q, 0, none⟩) M M]) (w.heap.size + 1) (lowCs ⟨ct, sg, ap, ze, ix, la, op, bk, fr⟩ (.slice A n c)) from (H1.out.on hb2).puts_far (by omega) 0 _)
  have hlb : w.heap.size + 1 < W.heap.size := H1.out.lt
  rw [HN.out, HM.out]
  clear hb2 hog hom hoh him hcr p0 p1
  go_upto_region 2 with fail
  obtain ⟨Z, hZ⟩ : ∃ Z, Z = w2.setCells w.heap.size 0 [.slice (some ⟨g, 0, none⟩) N N, .slice (some ⟨q, 0, none⟩) M M] := ⟨_, rfl⟩
  rw [← hZ] at HK HL
  rw [show (w2.setCell ⟨w.heap.size, 0, none⟩ (.slice (some ⟨g, 0, none⟩) N N)).setCell ⟨w.heap.size, 1, none⟩ (.slice (some ⟨q, 0, none⟩) M M) = Z from hZ.symm]
  clear hZ e0 e1 f0 f1 z0 H0 H1 H2 HA CL
  generalize W.heap.size = B at *
  have p0 := HK.out.bt.cell (j := 0) rfl
  have p1 := HK.out.bt.cell (j := 1) rfl
  obtain ⟨l0, l1, l2, l3, l4, l5, l6, l7, l8, l9⟩ := low_box HL.out
  dsimp only at l0 l1 l2 l3 l4 l5 l6 l7 l8
  rcases ia with _ | _
  · go_wp2_with fail
    refine (CI.out _).mono ?_
    rintro e w3 ⟨rfl, hb3⟩
    have hK3 := HK.out.on hb3
    have p0 := hK3.bt.cell (j := 0) rfl
    have p1 := hK3.bt.cell (j := 1) rfl
    have e0 := hK3.br.cell (j := 0) rfl
    have e1 := hK3.br.cell (j := 1) rfl
    have f0 := hK3.br.free 0
    have f1 := hK3.br.free 1
    have z0 := hK3.br.lt
    have HRT := Lib.hid hK3.toRet.ret
    have hR := HB.out (by simp)
    subst hR
    clear hK3 hb3 HK HL
    go_wp2_with fail
    refine bodyPost_ret (res_tr2 rfl _ _ (w.heap.size + 1 + 1) (.slice (some ⟨g, 0, none⟩) N N) (.slice (some ⟨q, 0, none⟩) M M) rfl ?_) rfl (HQ.out _ _ ⟨?_, _, _, rfl, ?_, ?_⟩)
    · exact HRT.out.1
    · exact HRT.out.2.1
    · exact HRT.out.2.2.1
    · exact HRT.out.2.2.2
  · go_wp2_with fail
    refine (CI.out _).mono ?_
    rintro e w3 ⟨rfl, hb3⟩
    have HK3 := Lib.hid (HK.out.on hb3)
    have hL3 := HL.out.on hb3
    have HL3 := Lib.hid hL3
    clear l0 l1 l2 l3 l4 l5 l6 l7 l8 l9 p0 p1 hb3 HK HL
    obtain ⟨l0, l1, l2, l3, l4, l5, l6, l7, l8, l9⟩ := low_box hL3
    dsimp only at l0 l1 l2 l3 l4 l5 l6 l7 l8
    clear hL3
    go_wp2_with fail
    refine (CK.out _).mono ?_
    rintro e w4 ⟨rfl, hb4⟩
    have HK4 := Lib.hid (HK3.out.on hb4)
    have hL4 := HL3.out.on hb4
    have HL4 := Lib.hid hL4
    clear l0 l1 l2 l3 l4 l5 l6 l7 l8 l9 hb4 HK3 HL3
    obtain ⟨l0, l1, l2, l3, l4, l5, l6, l7, l8, l9⟩ := low_box hL4
    dsimp only at l0 l1 l2 l3 l4 l5 l6 l7 l8
    have p0 := HK4.out.bt.cell (j := 0) rfl
    have p1 := HK4.out.bt.cell (j := 1) rfl
    by_cases hE : E = 0
    · subst hE
      have HGO := Lib.hid (show ¬ (true = false ∨ (0 : Int) ≠ 0) by simp)
      clear hL4
      go_wp2_with fail
      go_loopw [24] (fun i wr => ∃ k : Nat, k ≤ N ∧ i = .int .i64 k ∧ KSt os is w wr B w.heap.size (w.heap.size + 1 + 1) g q N M xs ys ∧ Box wr (w.heap.size + 1) (lowCs ⟨ct, sg, ap, ze, ix, la, op, bk, fr⟩ (.slice A n c)) ∧ (os.take k).findIdx? (fitB src ⟨ct, sg, ap, ze, ix, la, op, bk, fr⟩) = none) (fun i _ => N - (intOf i).toNat)
      case atStart => exact ⟨0, Nat.zero_le _, rfl, HK4.out, HL4.out, rfl⟩
      clear HK4 HL4 p0 p1 l0 l1 l2 l3 l4 l5 l6 l7 l8 l9
      case round =>
        obtain ⟨k, hk, rfl, hK, hL, hF⟩ := hrel
        have HK := Lib.hid hK
        have HL := Lib.hid hL
        have HF := Lib.hid hF
        by_cases hlt : k < N
        · have hki : k < os.length := by rw [HN.out]; exact hlt
          have hx := List.getElem?_eq_getElem hki
          obtain ⟨y, hy⟩ : ∃ y, xs[k]? = some y := ⟨_, List.getElem?_eq_getElem (by rw [hK.om.1]; omega)⟩
          have hak := HACK.out _ (List.getElem_mem hki)
          generalize os[k] = x at *
          have HX := Lib.hid hx
          have HY := Lib.hid hy
          obtain ⟨A7, c7, rfl⟩ : ∃ A7 c7, y = .slice A7 x.parts.length c7 := by
            obtain ⟨_, _, k2, _⟩ := hK.om.2.1 k x y hx hy
            exact own_form k2
          have HFT := Lib.hid (show fitB src ⟨ct, sg, ap, ze, ix, la, op, bk, fr⟩ x = (isNode x.dst && decide (((x.zero % 8192 : Nat) : Int) = ze) && (decide (x.dst = src) || fr)) from rfl)
          have HAN := Lib.hid (show ackedN ⟨ct, sg, ap, ze, ix, la, op, bk, fr⟩ x = x.ackd ||| (bk &&& full x.parts.length) from rfl)
          generalize hft : fitB src ⟨ct, sg, ap, ze, ix, la, op, bk, fr⟩ x = ft at *
          have HFV := Lib.hid hft
          generalize han : ackedN ⟨ct, sg, ap, ze, ix, la, op, bk, fr⟩ x = an at *
          have HAV := Lib.hid han
          obtain ⟨x0, x1, x2, x3, x4, x5, x6, x7, x8, x9⟩ := x
          dsimp only at HFT HAN hak hy
          have p0 := hK.bt.cell (j := 0) rfl
          have d0 : wr.cell? ⟨g, k * 10, none⟩ = some (.int .u16 (x0 : Int)) := hK.outCell (j := 0) hx hy rfl
          have d3 : wr.cell? ⟨g, k * 10 + 3, none⟩ = some (.int .u32 (x3 : Int)) := hK.outCell (j := 3) hx hy rfl
          have d5 : wr.cell? ⟨g, k * 10 + 5, none⟩ = some (.slice A7 x5.length c7) := hK.outCell (j := 5) hx hy rfl
          have d6 : wr.cell? ⟨g, k * 10 + 6, none⟩ = some (.int .u32 (x6 : Int)) := hK.outCell (j := 6) hx hy rfl
          have f6 := hK.og.frozenAt (k * 10 + 6)
          have zg := (hK.og.lt g rfl).2
          have l3 := hL.cell (j := 3) rfl
          have l7 := hL.cell (j := 7) rfl
          have l8 := hL.cell (j := 8) rfl
          dsimp only at l3 l7 l8
          have CN := Lib.hid (node_any x0)
          have CA := Lib.hid (fun W => show Calls Try.prog 47 #[.int .i64 (x5.length : Int)] W fun e w' => e = .returned (.int .u32 ((full x5.length : Nat) : Int)) ∧ W = w' from all_any x5.length hak.2 W)
          have hfl : full x5.length < 4294967296 := by
            unfold full
            have := Nat.pow_le_pow_right (show 0 < 2 by omega) hak.2
            omega
          have hand : bits .and .u32 (bk : Int) ((full x5.length : Nat) : Int) = ((bk &&& full x5.length : Nat) : Int) := u32_and_nat _ _ hbk hfl
          have hor : bits .or .u32 (x6 : Int) ((bk &&& full x5.length : Nat) : Int) = ((an : Nat) : Int) := by rw [HAN.out]; exact u32_or_nat _ _ hak.1 (Nat.lt_of_le_of_lt Nat.and_le_left hbk)
          clear hK hL hF hx hy hft han
          have ht : ((x3 : Int).tmod 8192) = ((x3 % 8192 : Nat) : Int) := by rw [Int.tmod_eq_emod_of_nonneg (by omega)]; omega
          have hw2 : IntKind.i64.wrap (((x3 % 8192 : Nat) : Int)) = ((x3 % 8192 : Nat) : Int) := IntWalk.i64_in _ (by omega)
          generalize x3 % 8192 = zz at *
          generalize isNode x0 = nd at *
          go_upto_region 8 with fail
          obtain ⟨wo, rfl⟩ : ∃ wo : World, wo = wr := ⟨_, rfl⟩
          go_cut [60] (fun t wx => t = .bool (!ft) ∧ Below wo.heap.size wo wx)
          case first =>
            rcases nd with _ | _
            · go_quiet ((go_at_call 46; exact quiet_ta (CN.out _)))
              go_wp2_with fail
              go_meet
              exact ⟨by rw [HFT.out]; rfl, below_drewN (Below.refl _ _) nq⟩
            · by_cases hz : (zz : Int) = ze
              · subst hz
                have hz3 : ((zz : Int) != (zz : Int)) = false := by simp
                by_cases hs : x0 = src
                · subst hs
                  have hs3 : ((x0 : Int) != (x0 : Int)) = false := by simp
                  go_quiet ((go_at_call 46; exact quiet_ta (CN.out _)))
                  go_wp2_with fail
                  go_meet
                  exact ⟨by rw [HFT.out]; simp, below_drewN (Below.refl _ _) nq⟩
                · have hs2 : ((x0 : Int) != (src : Int)) = true := ne_bool fun h => hs (by omega)
                  rcases fr with _ | _
                  · go_quiet ((go_at_call 46; exact quiet_ta (CN.out _)))
                    go_wp2_with fail
                    go_meet
                    exact ⟨by rw [HFT.out]; simp [hs], below_drewN (Below.refl _ _) nq⟩
                  · go_quiet ((go_at_call 46; exact quiet_ta (CN.out _)))
                    go_wp2_with fail
                    go_meet
                    exact ⟨by rw [HFT.out]; simp, below_drewN (Below.refl _ _) nq⟩
              · have hz2 : ((zz : Int) != ze) = true := ne_bool hz
                go_quiet ((go_at_call 46; exact quiet_ta (CN.out _)))
                go_wp2_with fail
                go_meet
                exact ⟨by rw [HFT.out]; simp [hz], below_drewN (Below.refl _ _) nq⟩
          case rest =>
            obtain ⟨rfl, hbx⟩ := hcut
            have HK5 := Lib.hid (HK.out.on hbx)
            have HL5 := Lib.hid (HL.out.on hbx)
            clear hbx HK HL d0 d3 d5 d6 f6 zg p0 l3 l7 l8 CN
            rcases ft with _ | _
            · go_wp2_with fail
              go_roundw
              case rel => exact ⟨k + 1, by omega, by go_num, HK5.out, HL5.out, find_miss HF.out HX.out HFV.out⟩
              case measure => simp [intOf]; omega
            · have d5 : wc.cell? ⟨g, k * 10 + 5, none⟩ = some (.slice A7 x5.length c7) := HK5.out.outCell (j := 5) HX.out HY.out rfl
              have d6 : wc.cell? ⟨g, k * 10 + 6, none⟩ = some (.int .u32 (x6 : Int)) := HK5.out.outCell (j := 6) HX.out HY.out rfl
              have f6 := HK5.out.og.frozenAt (k * 10 + 6)
              have zg := (HK5.out.og.lt g rfl).2
              have l7 := HL5.out.cell (j := 7) rfl
              have zl := HL5.out.lt
              dsimp only at l7
              go_upto_region 9 with fail
              go_still_tail 16, (by kernel_rfl)
              still_call ((CA.out _).mono fun _ _ h => ⟨h.1, h.2.symm⟩)
              repeat still_step
              refine wpStill_nil ?_
              have HK6 := Lib.hid HK5.out.drew
              change wpList _ _ _ _ _ wc.drew
              generalize wc.drew = w6 at *
              clear d5 d6 f6 zg l7 zl
              have d6 : w6.cell? ⟨g, k * 10 + 6, none⟩ = some (.int .u32 (x6 : Int)) := HK6.out.outCell (j := 6) HX.out HY.out rfl
              have f6 := HK6.out.og.frozenAt (k * 10 + 6)
              have zg := (HK6.out.og.lt g rfl).2
              go_wp2_with fail
              obtain ⟨V, hV⟩ : ∃ V, V = w6.setCell ⟨g, k * 10 + 6, none⟩ (.int .u32 (an : Int)) := ⟨_, rfl⟩
              have HK7 := Lib.hid (show KSt (os.set k ⟨x0, x1, x2, x3, x4, x5, an, x7, x8, x9⟩) is w V B w.heap.size (w.heap.size + 1 + 1) g q N M xs ys by rw [hV]; exact HK6.out.setOut HX.out HY.out (by omega) rfl rfl)
              have HX7 := Lib.hid (show (os.set k ⟨x0, x1, x2, x3, x4, x5, an, x7, x8, x9⟩)[k]? = some ⟨x0, x1, x2, x3, x4, x5, an, x7, x8, x9⟩ from List.getElem?_set_self hki)
              rw [← hV]
              have HFI := Lib.hid (find_hit HF.out HX.out HFV.out)
              have HOE := Lib.hid (show (os.set k ⟨x0, x1, x2, x3, x4, x5, an, x7, x8, x9⟩).eraseIdx k = os.eraseIdx k by rw [List.eraseIdx_set_eq])
              have HYR := Lib.hid (HYE.out k _ HGO.out HFI.out HX.out)
              have HPR := Lib.hid (HPA.out k _ HGO.out HFI.out HX.out)
              rw [HAV.out] at HYR HPR
              dsimp only at HYR HPR
              generalize os.set k ⟨x0, x1, x2, x3, x4, x5, an, x7, x8, x9⟩ = os7 at *
              clear hV HK6 HK5 HL5 d6 f6 zg hand hor
              have d5 : V.cell? ⟨g, k * 10 + 5, none⟩ = some (.slice A7 x5.length c7) := HK7.out.outCell (j := 5) HX7.out HY.out rfl
              have d6 : V.cell? ⟨g, k * 10 + 6, none⟩ = some (.int .u32 (an : Int)) := HK7.out.outCell (j := 6) HX7.out HY.out rfl
              have zg := (HK7.out.og.lt g rfl).2
              by_cases hf : an = full x5.length
              · have hR := HYR.out hf
                subst hR
                have hf2 : ((an : Int) != ((full x5.length : Nat) : Int)) = false := by rw [hf]; simp
                go_quiet ((go_at_call 47; exact quiet_ta (CA.out _)))
                have HK8 := Lib.hid (HK7.out.on (below_drewN (Below.refl _ _) nq))
                generalize V.drewN nq = Y at *
                clear d5 d6 zg HK7
                have p0 := HK8.out.bt.cell (j := 0) rfl
                have z0 := HK8.out.bt.lt
                have f0 := HK8.out.bt.free 0
                go_upto_region 12 with fail
                have hiM1 : (k : Int) + 1 ≤ (N : Int) := by omega
                have hi0 : (0 : Int) ≤ (k : Int) := by omega
                have hiM2 : (k : Int) ≤ (N : Int) := by omega
                have hwi : IntKind.i64.wrap ((k : Int) + 1) = (k : Int) + 1 := IntWalk.i64_in _ (by omega)
                have hi1 : (0 : Int) ≤ (k : Int) + 1 := by omega
                have hit : ((k : Int) + 1).toNat = k + 1 := by omega
                obtain ⟨AA, hAA⟩ : ∃ AA, (if N = k + 1 then (some ⟨g, 0, none⟩ : Option Addr) else some ⟨g, (k + 1) * 10, none⟩) = AA := ⟨_, rfl⟩
                have HCUT := Lib.hid (show Sl Y.drew Y.heap.size 10 (.slice AA (N - (k + 1)) (N - (k + 1))) (N - (k + 1)) ((flat2 outCs os7 xs).drop ((k + 1) * 10)) by
                  have h1 := (Sl.of_own HK8.out.og).cutN (k := k + 1) (by omega)
                  rw [Nat.zero_add, hAA] at h1
                  exact h1.drew)
                have HPRE := Lib.hid (show Y.drew.ownsRow B 75 10 (.slice (some ⟨g, 0, none⟩) k N) k ((flat2 outCs os7 xs).take (k * 10)) from own_drew (own_take HK8.out.og (by omega)))
                have HONE := Lib.hid (show ∀ u ∈ (flat2 outCs os7 xs).drop ((k + 1) * 10), u.oneCell' = true from fun u hu => flat2_cells (fun o v => outCs_one o) os7 xs (fun v hv => by
                  obtain ⟨q, hq, rfl⟩ := List.getElem_of_mem hv
                  have hqo : q < os7.length := by rw [← HK8.out.om.1]; exact hq
                  exact partsV_one (HK8.out.om.2.1 q _ _ (List.getElem?_eq_getElem hqo) (List.getElem?_eq_getElem hq)).reads) u (List.mem_of_mem_drop hu))
                have HPD := Lib.hid HK8.out.drew
                have HBY := Lib.hid (show (k + (N - (k + 1))) * 72 ≤ 140737488355328 by omega)
                have HBA := Lib.hid (show B ≤ Y.drew.heap.size from HK8.out.lt.2.2.2.2.2)
                have HLB := Lib.hid (show w.heap.size < B from HK8.out.lt.1)
                go_region_law (first
                  | (refine step_sl _ elO (by rfl) (.tmp 92) (.tmp 97) (by rfl) (by rfl) HPRE.out (by rfl) HCUT.out HONE.out HBY.out HBA.out ?_
                     intro v9 w9 hown9 hg9 _ hat9
                     have hg9' : Y.drew.grownBy w9 (some g) := hg9
                     have hne9 : (some w.heap.size : Option Nat) ≠ some g := fun e => by
                       have h1 : w.heap.size = g := by simpa using e
                       have h2 := (HK8.out.og.lt g rfl).1
                       have := HLB.out
                       omega
                     have p9 := (HPD.out.bt.grown hg9' hne9).cell (j := 0) rfl
                     have f9 := (HPD.out.bt.grown hg9' hne9).free 0
                     have z9 := (HPD.out.bt.grown hg9' hne9).lt
                     have HG9 := Lib.hid hg9'
                     have HO9 := Lib.hid hown9
                     obtain ⟨A9, c9, rfl⟩ := own_form hown9
                     clear hg9 hown9 hat9 hg9' hne9))
                all_goals
                  have hRS := HPD.out.gone (i := k) (by rw [HPD.out.len.1]; exact hlt) HO9.out (by omega) rfl HG9.out
                  rw [HOE.out] at hRS
                  clear p9 f9 z9 p0 z0 f0 HPD HPRE HCUT HONE HK8 HG9 HO9 hiM1 hi0 hiM2 hwi hi1 hit
                  obtain ⟨Y9, hY9⟩ : ∃ Y9, Y9 = w9.setCell ⟨w.heap.size, 0, none⟩ (.slice A9 (k + (N - (k + 1))) c9) := ⟨_, rfl⟩
                  rw [← hY9] at hRS ⊢
                  have p0 := hRS.bt.cell (j := 0) rfl
                  have p1 := hRS.bt.cell (j := 1) rfl
                  have e0 := hRS.br.cell (j := 0) rfl
                  have e1 := hRS.br.cell (j := 1) rfl
                  have f0 := hRS.br.free 0
                  have f1 := hRS.br.free 1
                  have z0 := hRS.br.lt
                  have HRT := Lib.hid hRS.ret
                  clear hRS hY9
                  go_wp2_with fail
                  refine bodyPost_ret (res_tr2 rfl _ _ (w.heap.size + 1 + 1) (.slice A9 (k + (N - (k + 1))) c9) (.slice (some ⟨q, 0, none⟩) M M) rfl ?_) rfl (HQ.out _ _ ⟨?_, _, _, rfl, ?_, ?_⟩)
                  · exact HRT.out.1
                  · exact HRT.out.2.1
                  · exact HRT.out.2.2.1
                  · exact HRT.out.2.2.2
              · have hR := HPR.out hf
                subst hR
                have hf2 : ((an : Int) != ((full x5.length : Nat) : Int)) = true := ne_bool fun h => hf (by omega)
                go_quiet ((go_at_call 47; exact quiet_ta (CA.out _)))
                have HK8 := Lib.hid (HK7.out.on (below_drewN (Below.refl _ _) nq))
                generalize V.drewN nq = Y at *
                clear d5 d6 zg HK7
                have p0 := HK8.out.bt.cell (j := 0) rfl
                have p1 := HK8.out.bt.cell (j := 1) rfl
                have e0 := HK8.out.br.cell (j := 0) rfl
                have e1 := HK8.out.br.cell (j := 1) rfl
                have f0 := HK8.out.br.free 0
                have f1 := HK8.out.br.free 1
                have z0 := HK8.out.br.lt
                have HRT := Lib.hid HK8.out.toRet.ret
                clear HK8
                go_wp2_with fail
                refine bodyPost_ret (res_tr2 rfl _ _ (w.heap.size + 1 + 1) (.slice (some ⟨g, 0, none⟩) N N) (.slice (some ⟨q, 0, none⟩) M M) rfl ?_) rfl (HQ.out _ _ ⟨?_, _, _, rfl, ?_, ?_⟩)
                · exact HRT.out.1
                · exact HRT.out.2.1
                · exact HRT.out.2.2.1
                · exact HRT.out.2.2.2
        · have hkN : k = N := by omega
          subst hkN
          rw [← HN.out, List.take_length] at hF
          have hR := HNO.out hF
          subst hR
          have p0 := hK.bt.cell (j := 0) rfl
          have p1 := hK.bt.cell (j := 1) rfl
          have e0 := hK.br.cell (j := 0) rfl
          have e1 := hK.br.cell (j := 1) rfl
          have f0 := hK.br.free 0
          have f1 := hK.br.free 1
          have z0 := hK.br.lt
          have HRT := Lib.hid hK.toRet.ret
          clear hK hL HK HL
          go_wp2_with fail
          refine bodyPost_ret (res_tr2 rfl _ _ (w.heap.size + 1 + 1) (.slice (some ⟨g, 0, none⟩) k k) (.slice (some ⟨q, 0, none⟩) M M) rfl ?_) rfl (HQ.out _ _ ⟨?_, _, _, rfl, ?_, ?_⟩)
          · exact HRT.out.1
          · exact HRT.out.2.1
          · exact HRT.out.2.2.1
          · exact HRT.out.2.2.2
    · have hR := HB.out (.inr hE)
      subst hR
      have e0 := HK4.out.br.cell (j := 0) rfl
      have e1 := HK4.out.br.cell (j := 1) rfl
      have f0 := HK4.out.br.free 0
      have f1 := HK4.out.br.free 1
      have z0 := HK4.out.br.lt
      have HRT := Lib.hid HK4.out.toRet.ret
      have hE' : (E == 0) = false := by simpa using hE
      clear hL4 HK4 HL4
      go_wp2_with fail
      refine bodyPost_ret (res_tr2 rfl _ _ (w.heap.size + 1 + 1) (.slice (some ⟨g, 0, none⟩) N N) (.slice (some ⟨q, 0, none⟩) M M) rfl ?_) rfl (HQ.out _ _ ⟨?_, _, _, rfl, ?_, ?_⟩)
      · exact HRT.out.1
      · exact HRT.out.2.1
      · exact HRT.out.2.2.1
      · exact HRT.out.2.2.2

theorem res_tr3b {fn : Func} {i j k : Tmp} (h : fn.results = #[.cell i 47, .tmp j, .tmp k]) (tmps : Array Value) (w : World) (b : Nat) (u v : Value) (hp : tmps.getD i undef = .pointer (some ⟨b, 0, none⟩)) (hs : Box w b [u, v]) :
    (results fn tmps).run Try.prog w = .ok (.tuple #[.agg #[u, v], tmps.getD j undef, tmps.getD k undef]) w := by
  have c0 := hs.cell (j := 0) rfl
  have c1 := hs.cell (j := 1) rfl
  rw [Array.getD_eq_getD_getElem?] at hp
  simp [results, h, hp, go_sem, c0, c1]

set_option maxRecDepth 100000 in
set_option maxHeartbeats 16000000 in
theorem again_any (os : List OutS) (is : List InS) (now : Int) (v u : Value) (w : World) (hv : RowV outCs 10 OutS.parts w w.heap.size v os) (hu : RowV inCs 11 InS.parts w w.heap.size u is) (ho : Sized (os.map OutS.parts)) (hi : Sized (is.map InS.parts)) (hwf : ∀ o ∈ os, WfO o) (hnow : 0 ≤ now) (hnow2 : now ≤ 4611686018427387904) :
    Calls Try.prog 28 #[.agg #[v, u], .int .i64 now] w (AgainPost os is now w) := by
  obtain ⟨A1, c1, rfl⟩ := rowV_form hv
  obtain ⟨A2, c2, rfl⟩ := rowV_form hu
  have hiN : os.length ≤ 65536 := by have := ho.1; simpa using this
  have CL := Lib.hid (fun (W : World) (hW : Below w.heap.size w W) => clone_any2 os is (.slice A1 os.length c1) (.slice A2 is.length c2) W (hv.on hW) (hu.on hW) ho hi)
  have HWF := Lib.hid hwf
  have HQ := Lib.hid (show ∀ (e : Ending) (w' : World), (Below w.heap.size w w' ∧ ∃ v u x y, e = .returned (.tuple #[.agg #[v, u], x, y]) ∧ RowV2 outCs 10 OutS.parts w' w.heap.size w'.heap.size v (againO os now) ∧ RowV2 inCs 11 InS.parts w' w.heap.size w'.heap.size u is ∧ OutwsV2 w' w.heap.size w'.heap.size x (againA os now) ∧ Sl2 w' w.heap.size w'.heap.size 1 y (againL os now).length (u16s (againL os now))) → AgainPost os is now w e w' from fun _ _ h => h)
  generalize AgainPost os is now w = Q at *
  generalize hN : os.length = N at *
  generalize hM : is.length = M at *
  have HN := Lib.hid hN
  have HM := Lib.hid hM
  clear hN hM hv hu ho hi hwf
  go_enter Try.func28, Try.ntmps28
  go_upto_region 1 with fail
  obtain ⟨W, hW⟩ : ∃ W, W = (w.alloc (.cells #[.slice A1 N c1, .slice A2 M c2] 47)).alloc (.cells #[.slice none 0 0, .slice none 0 0] 47) := ⟨_, rfl⟩
  have hA : Below w.heap.size w W := by rw [hW]; exact al2 _ _ _
  have hb0 : Box W w.heap.size [.slice A1 N c1, .slice A2 M c2] := by rw [hW]; exact (Box.new _ _ _).alloc _
  have hb1 : Box W (w.heap.size + 1) [.slice none 0 0, .slice none 0 0] := ⟨47, by rw [hW, heap_al, if_pos (by simp)]⟩
  rw [← hW]
  clear hW
  have HA := Lib.hid hA
  have H0 := Lib.hid hb0
  have H1 := Lib.hid hb1
  have p0 := hb0.cell (j := 0) rfl
  have p1 := hb0.cell (j := 1) rfl
  clear hA hb0 hb1
  go_wp2_with fail
  refine (CL.out _ HA.out).mono ?_
  rintro e w2 ⟨hb2, g, q, xs, ys, rfl, hog, hom, hoh, him, hcr⟩
  rw [HN.out] at hog
  rw [HM.out] at hoh
  have HK := Lib.hid (KSt.start HN.out HM.out HA.out H0.out rfl H1.out (by omega) (Nat.le_refl _) (Nat.le_succ _) hb2 hog hom hoh him hcr)
  have e0 := (H0.out.on hb2).cell (j := 0) rfl
  have e1 := (H0.out.on hb2).cell (j := 1) rfl
  have f0 := (H0.out.on hb2).free 0
  have f1 := (H0.out.on hb2).free 1
  have z0 := (H0.out.on hb2).lt
  rw [HN.out, HM.out]
  clear hb2 hog hom hoh him hcr p0 p1
  go_upto_region 2 with fail
  obtain ⟨Z, hZ⟩ : ∃ Z, Z = w2.setCells w.heap.size 0 [.slice (some ⟨g, 0, none⟩) N N, .slice (some ⟨q, 0, none⟩) M M] := ⟨_, rfl⟩
  rw [← hZ] at HK
  rw [show (w2.setCell ⟨w.heap.size, 0, none⟩ (.slice (some ⟨g, 0, none⟩) N N)).setCell ⟨w.heap.size, 1, none⟩ (.slice (some ⟨q, 0, none⟩) M M) = Z from hZ.symm]
  clear hZ e0 e1 f0 f1 z0 H0 H1 HA CL
  generalize W.heap.size = B at *
  have p0 := HK.out.bt.cell (j := 0) rfl
  go_wp2_with fail
  go_loopw [17, 5, 6, 7] (fun i v5 v6 v7 wr => ∃ k : Nat, k ≤ N ∧ i = .int .i64 k ∧ ASt os is w wr B w.heap.size (w.heap.size + 1) g q N M xs ys k v5 v6 v7 (againA (os.take k) now) (againL (os.take k) now) (againO (os.take k) now)) (fun i _ _ _ _ => N - (intOf i).toNat)
  case atStart => exact ⟨0, Nat.zero_le _, rfl, HK.out, OwnM.nil _ _, World.ownsRow_nil _ _ _ _, ⟨[], World.ownsRow_nil _ _ _ _, ⟨rfl, fun _ _ _ h => by simp [againO] at h, fun _ _ _ _ _ h => by simp at h⟩, fun _ h => by simp at h⟩, fun _ h => by simp [Value.ownBlock] at h⟩
  clear HK p0
  case round =>
    obtain ⟨k, hk, rfl, hS⟩ := hrel
    have HS := Lib.hid hS
    by_cases hlt : k < N
    · have hki : k < os.length := by rw [HN.out]; exact hlt
      have hx := List.getElem?_eq_getElem hki
      obtain ⟨y, hy⟩ : ∃ y, xs[k]? = some y := ⟨_, List.getElem?_eq_getElem (by rw [hS.ks.om.1]; omega)⟩
      have hwx := HWF.out _ (List.getElem_mem hki)
      generalize os[k] = x at *
      have HX := Lib.hid hx
      have HY := Lib.hid hy
      have HWX := Lib.hid hwx
      have hx32 : x.parts.length ≤ 32 := hwx.2.1
      have HEA := Lib.hid (show againA (os.take (k + 1)) now = againA (os.take k) now ++ agA now x from flatMap_succ _ hx)
      have HEL := Lib.hid (show againL (os.take (k + 1)) now = againL (os.take k) now ++ agL now x from flatMap_succ _ hx)
      have HEO := Lib.hid (show againO (os.take (k + 1)) now = againO (os.take k) now ++ agO now x from flatMap_succ _ hx)
      have HLA := Lib.hid (show (againA (os.take k) now).length ≤ 32 * k from Nat.le_trans (flatMap_le _ 32 _ fun o ho => agA_len (HWF.out o (List.mem_of_mem_take ho)).2.1) (by rw [List.length_take]; omega))
      have HLL := Lib.hid (show (againL (os.take k) now).length ≤ 1 * k from Nat.le_trans (flatMap_le _ 1 _ fun o _ => agL_len now o) (by rw [List.length_take]; omega))
      have HLO := Lib.hid (show (againO (os.take k) now).length ≤ 1 * k from Nat.le_trans (flatMap_le _ 1 _ fun o _ => agO_len now o) (by rw [List.length_take]; omega))
      generalize againA (os.take k) now = A at *
      generalize againL (os.take k) now = L at *
      generalize againO (os.take k) now = O at *
      obtain ⟨A7, c7, rfl⟩ : ∃ A7 c7, y = .slice A7 x.parts.length c7 := by
        obtain ⟨_, _, k2, _⟩ := hS.ks.om.2.1 k x y hx hy
        exact own_form k2
      obtain ⟨x0, x1, x2, x3, x4, x5, x6, x7, x8, x9⟩ := x
      dsimp only at hy hx32
      have d0 : wr.cell? ⟨g, k * 10, none⟩ = some (.int .u16 (x0 : Int)) := hS.ks.outCell (j := 0) hx hy rfl
      have d1 : wr.cell? ⟨g, k * 10 + 1, none⟩ = some (.int .u16 (x1 : Int)) := hS.ks.outCell (j := 1) hx hy rfl
      have d2 : wr.cell? ⟨g, k * 10 + 2, none⟩ = some (.bool x2) := hS.ks.outCell (j := 2) hx hy rfl
      have d3 : wr.cell? ⟨g, k * 10 + 3, none⟩ = some (.int .u32 (x3 : Int)) := hS.ks.outCell (j := 3) hx hy rfl
      have d4 : wr.cell? ⟨g, k * 10 + 4, none⟩ = some (.int .u32 (x4 : Int)) := hS.ks.outCell (j := 4) hx hy rfl
      have d5 : wr.cell? ⟨g, k * 10 + 5, none⟩ = some (.slice A7 x5.length c7) := hS.ks.outCell (j := 5) hx hy rfl
      have d6 : wr.cell? ⟨g, k * 10 + 6, none⟩ = some (.int .u32 (x6 : Int)) := hS.ks.outCell (j := 6) hx hy rfl
      have d7 : wr.cell? ⟨g, k * 10 + 7, none⟩ = some (.int .i64 x7) := hS.ks.outCell (j := 7) hx hy rfl
      have d8 : wr.cell? ⟨g, k * 10 + 8, none⟩ = some (.int .i64 x8) := hS.ks.outCell (j := 8) hx hy rfl
      have d9 : wr.cell? ⟨g, k * 10 + 9, none⟩ = some (.int .i64 x9) := hS.ks.outCell (j := 9) hx hy rfl
      have zg := (hS.ks.og.lt g rfl).2
      clear hS hx hy
      go_upto_region 6 with fail
      obtain ⟨W1, hW1⟩ : ∃ W1, W1 = wr.alloc (.cells #[.int .u16 (x0 : Int), .int .u16 (x1 : Int), .bool x2, .int .u32 (x3 : Int), .int .u32 (x4 : Int), .slice A7 x5.length c7, .int .u32 (x6 : Int), .int .i64 x7, .int .i64 x8, .int .i64 x9] 75) := ⟨_, rfl⟩
      have HS1 := Lib.hid (show ASt os is w W1 B w.heap.size (w.heap.size + 1) g q N M xs ys k u5 u6 u7 A L O by rw [hW1]; exact HS.out.on (al1 _ _))
      have HT1 := Lib.hid (show BT W1 wr.heap.size 75 (outCs ⟨x0, x1, x2, x3, x4, x5, x6, x7, x8, x9⟩ (.slice A7 x5.length c7)) by rw [hW1]; exact BT.new wr (outCs ⟨x0, x1, x2, x3, x4, x5, x6, x7, x8, x9⟩ (.slice A7 x5.length c7)) 75)
      have HBM := Lib.hid (show B ≤ wr.heap.size from HS.out.ks.lt.2.2.2.2.2)
      have HGM := Lib.hid (show g < wr.heap.size from (HS.out.ks.og.lt g rfl).2)
      have HAP := Lib.hid (show some wr.heap.size ≠ u7.ownBlock from fun he => by
        obtain ⟨zs, z1, _⟩ := HS.out.out
        have := (z1.lt _ he.symm).2
        omega)
      rw [← hW1]
      clear hW1 d0 d1 d2 d3 d4 d5 d6 d7 d8 d9 zg HS
      generalize wr.heap.size = bm at *
      have e0 := HT1.out.box.cell (j := 0) rfl
      dsimp only at e0
      have HMO := Lib.hid (show mostT ⟨x0, x1, x2, x3, x4, x5, x6, x7, x8, x9⟩ = if isNode x0 = true then 6 else 3 from rfl)
      generalize hmo : mostT ⟨x0, x1, x2, x3, x4, x5, x6, x7, x8, x9⟩ = mo at *
      have HMV := Lib.hid hmo
      have CN := Lib.hid (fun W => node_any x0 W)
      have HND := Lib.hid (show isNode x0 = isNode x0 from rfl)
      have HAO := Lib.hid (show agO now ⟨x0, x1, x2, x3, x4, x5, x6, x7, x8, x9⟩ = if now < x7 then [⟨x0, x1, x2, x3, x4, x5, x6, x7, x8, x9⟩] else if x8 < mo then [⟨x0, x1, x2, x3, x4, x5, x6, now + 20, x8 + 1, x9⟩] else [] by rw [← hmo]; rfl)
      have HAA := Lib.hid (show agA now ⟨x0, x1, x2, x3, x4, x5, x6, x7, x8, x9⟩ = if now < x7 then [] else if x8 < mo then segsW ⟨x0, x1, x2, x3, x4, x5, x6, x7, x8, x9⟩ x5.length else [] by rw [← hmo]; rfl)
      have HAL := Lib.hid (show agL now ⟨x0, x1, x2, x3, x4, x5, x6, x7, x8, x9⟩ = if now < x7 then [] else if x8 < mo then [] else if isNode x0 = true then [x0] else [] by rw [← hmo]; rfl)
      rw [HAO.out] at HEO
      rw [HAA.out] at HEA
      rw [HAL.out] at HEL
      clear hmo HAO HAA HAL HMV HND
      have hmo6 : mo ≤ 6 := by rw [HMO.out]; split <;> omega
      generalize isNode x0 = nd at *
      obtain ⟨wo, rfl⟩ : ∃ wo : World, wo = W1 := ⟨_, rfl⟩
      go_wp2_with fail
      refine (CN.out _).mono ?_
      rintro e w3 ⟨rfl, rfl⟩
      go_upto_if 23 with fail
      go_cut [10] (fun t wx => t = .int .i64 mo ∧ wx = wo)
      case first =>
        rcases nd with _ | _
        · go_wp2_with fail
          go_meet
          exact ⟨by rw [HMO.out]; rfl, rfl⟩
        · go_wp2_with fail
          go_meet
          exact ⟨by rw [HMO.out]; rfl, rfl⟩
      case rest =>
        obtain ⟨rfl, rfl⟩ := hcut
        clear HMO e0
        have e7 := HT1.out.box.cell (j := 7) rfl
        have e8 := HT1.out.box.cell (j := 8) rfl
        dsimp only at e7 e8
        by_cases hd : now < x7
        · have hd1 : decide (now < x7) = true := decide_eq_true hd
          rw [if_pos hd, List.append_nil] at HEA HEL
          rw [if_pos hd] at HEO
          have e0 := HT1.out.box.cell (j := 0) rfl
          have e1 := HT1.out.box.cell (j := 1) rfl
          have e2 := HT1.out.box.cell (j := 2) rfl
          have e3 := HT1.out.box.cell (j := 3) rfl
          have e4 := HT1.out.box.cell (j := 4) rfl
          have e5 := HT1.out.box.cell (j := 5) rfl
          have e6 := HT1.out.box.cell (j := 6) rfl
          have e9 := HT1.out.box.cell (j := 9) rfl
          dsimp only at e0 e1 e2 e3 e4 e5 e6 e9
          obtain ⟨zs, z1, z2, z3⟩ := HS1.out.out
          obtain ⟨A5, c5, rfl⟩ := own_form z1
          have HZ1 := Lib.hid z1
          have HZ2 := Lib.hid z2
          have HZ3 := Lib.hid z3
          have HBB := Lib.hid (show B ≤ wc.heap.size from HS1.out.ks.lt.2.2.2.2.2)
          clear z1 z2 z3
          go_wp2_with (first
            | (at_builtin
               refine app_sl _ elO rfl (.tmp 29) (.tmp 31) rfl rfl (HZ1.out.alloc _) rfl (Sl.lit _ _ _ 1 rfl (by simp [maxLen])) ?_ ?_ ?_ ?_
               (case refine_1 => exact outCs_one ⟨x0, x1, x2, x3, x4, x5, x6, x7, x8, x9⟩ rfl)
               (case refine_2 => have := HLO.out; omega)
               (case refine_3 => exact Nat.le_trans HBB.out (by simp))
               intro v9 w9 hown9 hg9 hnil9 hat9))
          have HS9 := Lib.hid ((HS1.out.on (al1 _ _)).addO (o' := ⟨x0, x1, x2, x3, x4, x5, x6, x7, x8, x9⟩) (HZ1.out.alloc _) (HZ2.out.on (al1 _ _)) HZ3.out HX.out HY.out rfl hown9 hg9 hat9)
          clear hown9 hg9 hnil9 hat9
          go_wp2_with fail
          go_roundw
          case rel => exact ⟨k + 1, by omega, by go_num, by rw [HEA.out, HEL.out, HEO.out]; exact HS9.out⟩
          case measure => simp [intOf]; omega
        · have hd1 : decide (now < x7) = false := decide_eq_false hd
          rw [if_neg hd] at HEA HEL HEO
          by_cases ht : x8 < mo
          · have ht1 : decide (x8 < mo) = true := decide_eq_true ht
            rw [if_pos ht] at HEA HEL HEO
            rw [List.append_nil] at HEL
            have e5 := HT1.out.box.cell (j := 5) rfl
            go_wp2_with fail
            go_loopw [41, 5] (fun i v5 wq => ∃ j : Nat, j ≤ x5.length ∧ i = .int .i64 j ∧ ASt os is w wq B w.heap.size (w.heap.size + 1) g q N M xs ys k v5 u6 u7 (A ++ segsW ⟨x0, x1, x2, x3, x4, x5, x6, x7, x8, x9⟩ j) L O ∧ BT wq bm 75 (outCs ⟨x0, x1, x2, x3, x4, x5, x6, x7, x8, x9⟩ (.slice A7 x5.length c7))) (fun i _ _ => x5.length - (intOf i).toNat)
            case atStart => exact ⟨0, Nat.zero_le _, rfl, by rw [segsW_zero, List.append_nil]; exact HS1.out, HT1.out⟩
            clear HS1 HT1 e5 e7 e8
            case round =>
              obtain ⟨j, hj, rfl, hS, hT⟩ := hrel
              have HS2 := Lib.hid hS
              have HT2 := Lib.hid hT
              have e0 := hT.box.cell (j := 0) rfl
              have e1 := hT.box.cell (j := 1) rfl
              have e2 := hT.box.cell (j := 2) rfl
              have e3 := hT.box.cell (j := 3) rfl
              have e4 := hT.box.cell (j := 4) rfl
              have e5 := hT.box.cell (j := 5) rfl
              have e6 := hT.box.cell (j := 6) rfl
              have e7 := hT.box.cell (j := 7) rfl
              have e8 := hT.box.cell (j := 8) rfl
              have e9 := hT.box.cell (j := 9) rfl
              have zb := hT.box.lt
              dsimp only at e0 e1 e2 e3 e4 e6 e7 e8 e9
              by_cases hjl : j < x5.length
              · have hbit := bit_and1 (b := x6) j hwx.1
                by_cases h0 : x6 / 2 ^ j % 2 = 0
                · have hq : (bits BinOp.and IntKind.u32 ((x6 : Int) / 2 ^ j) 1 == 0) = true := by rw [hbit, h0]; rfl
                  have SG := Lib.hid (fun W (hW : Below wr.heap.size wr W) => segment_any ⟨x0, x1, x2, x3, x4, x5, x6, x7, x8, x9⟩ j hjl (by show x5.length ≤ 65536; omega) hwx.2.2.1 hwx.2.2.2.2.2 (.slice A7 x5.length c7) W ((show PartsV wr wr.heap.size (.slice A7 x5.length c7) x5 from (hS.ks.om.2.1 k _ _ HX.out HY.out).reads).on hW))
                  have hgB := hS.ks.lt.2.2.2.2.2
                  obtain ⟨vs, k1, k2, k3⟩ := hS.again
                  obtain ⟨A5, c5, rfl⟩ := own_form k2
                  have hla : (A ++ segsW ⟨x0, x1, x2, x3, x4, x5, x6, x7, x8, x9⟩ j).length ≤ 32 * k + j := by
                    rw [List.length_append]
                    have := HLA.out
                    have := segsW_len ⟨x0, x1, x2, x3, x4, x5, x6, x7, x8, x9⟩ j
                    omega
                  generalize hln : (A ++ segsW ⟨x0, x1, x2, x3, x4, x5, x6, x7, x8, x9⟩ j).length = ln at *
                  have HLN := Lib.hid hln
                  have HLA1 := Lib.hid hla
                  have HU1 := Lib.hid k1
                  have HU2 := Lib.hid k2
                  have HU3 := Lib.hid k3
                  have HGB := Lib.hid hgB
                  have HHW := Lib.hid hwx
                  clear hS hT hbit k1 k2 k3 hln hla hgB hwx
                  go_upto_region 16 with fail
                  refine wp_region_noPanic ?_
                  refine wp_region_held_drew (S := fun w' => (w'.cell? ⟨bm, 0, none⟩ = some (.int .u16 (x0 : Int)) ∧ w'.cell? ⟨bm, 1, none⟩ = some (.int .u16 (x1 : Int)) ∧ w'.cell? ⟨bm, 2, none⟩ = some (.bool x2) ∧ w'.cell? ⟨bm, 3, none⟩ = some (.int .u32 (x3 : Int)) ∧ w'.cell? ⟨bm, 4, none⟩ = some (.int .u32 (x4 : Int)) ∧ w'.cell? ⟨bm, 5, none⟩ = some (.slice A7 x5.length c7) ∧ w'.cell? ⟨bm, 6, none⟩ = some (.int .u32 (x6 : Int)) ∧ w'.cell? ⟨bm, 7, none⟩ = some (.int .i64 x7) ∧ w'.cell? ⟨bm, 8, none⟩ = some (.int .i64 x8) ∧ w'.cell? ⟨bm, 9, none⟩ = some (.int .i64 x9)) ∧ bm < w'.heap.size) (by kernel_rfl) (by (go_keep; try omega)) (fun hHeld => ?_)
                  refine wpAnyH_take (i := 0) (v := ?_) rfl (by kernel_rfl) (by kernel_rfl) (by kernel_rfl) (fun _ _ _ h => h) (Or.inl ⟨by rfl, ?_⟩) (by assumption) ?_
                  rotate_left
                  · intro w hSw
                    (try dsimp only at hSw)
                    go_simp
                    first | done | with_reducible rfl
                  simp only [Act.put, List.getElem_toArray, List.getElem_cons_zero, List.setIfInBounds_toArray, List.set_cons_zero, List.set_cons_succ]
                  refine wpAnyH_take (i := 1) (v := ?_) rfl (by kernel_rfl) (by kernel_rfl) (by kernel_rfl) (fun _ _ _ h => h) (Or.inl ⟨by rfl, ?_⟩) (by assumption) ?_
                  rotate_left
                  · intro w hSw
                    (try dsimp only at hSw)
                    go_simp
                    first | done | with_reducible rfl
                  simp only [Act.put, List.getElem_toArray, List.getElem_cons_succ, List.getElem_cons_zero, List.setIfInBounds_toArray, List.set_cons_zero, List.set_cons_succ]
                  refine wpAnyH_take (i := 2) (v := ?_) rfl (by kernel_rfl) (by kernel_rfl) (by kernel_rfl) (fun _ _ _ h => h) (Or.inl ⟨by rfl, ?_⟩) (by assumption) ?_
                  rotate_left
                  · intro w hSw
                    (try dsimp only at hSw)
                    go_simp
                    first | done | with_reducible rfl
                  simp only [Act.put, List.getElem_toArray, List.getElem_cons_succ, List.getElem_cons_zero, List.setIfInBounds_toArray, List.set_cons_zero, List.set_cons_succ]
                  refine wpAnyH_take (i := 3) (v := ?_) rfl (by kernel_rfl) (by kernel_rfl) (by kernel_rfl) (fun _ _ _ h => h) (Or.inl ⟨by rfl, ?_⟩) (by assumption) ?_
                  rotate_left
                  · intro w hSw
                    (try dsimp only at hSw)
                    go_simp
                    first | done | with_reducible rfl
                  simp only [Act.put, List.getElem_toArray, List.getElem_cons_succ, List.getElem_cons_zero, List.setIfInBounds_toArray, List.set_cons_zero, List.set_cons_succ]
                  refine wpAnyH_take (i := 4) (v := ?_) rfl (by kernel_rfl) (by kernel_rfl) (by kernel_rfl) (fun _ _ _ h => h) (Or.inl ⟨by rfl, ?_⟩) (by assumption) ?_
                  rotate_left
                  · intro w hSw
                    (try dsimp only at hSw)
                    go_simp
                    first | done | with_reducible rfl
                  simp only [Act.put, List.getElem_toArray, List.getElem_cons_succ, List.getElem_cons_zero, List.setIfInBounds_toArray, List.set_cons_zero, List.set_cons_succ]
                  refine wpAnyH_take (i := 5) (v := ?_) rfl (by kernel_rfl) (by kernel_rfl) (by kernel_rfl) (fun _ _ _ h => h) (Or.inl ⟨by rfl, ?_⟩) (by assumption) ?_
                  rotate_left
                  · intro w hSw
                    (try dsimp only at hSw)
                    go_simp
                    first | done | with_reducible rfl
                  simp only [Act.put, List.getElem_toArray, List.getElem_cons_succ, List.getElem_cons_zero, List.setIfInBounds_toArray, List.set_cons_zero, List.set_cons_succ]
                  refine wpAnyH_take (i := 6) (v := ?_) rfl (by kernel_rfl) (by kernel_rfl) (by kernel_rfl) (fun _ _ _ h => h) (Or.inl ⟨by rfl, ?_⟩) (by assumption) ?_
                  rotate_left
                  · intro w hSw
                    (try dsimp only at hSw)
                    go_simp
                    first | done | with_reducible rfl
                  simp only [Act.put, List.getElem_toArray, List.getElem_cons_succ, List.getElem_cons_zero, List.setIfInBounds_toArray, List.set_cons_zero, List.set_cons_succ]
                  refine wpAnyH_take (i := 7) (v := ?_) rfl (by kernel_rfl) (by kernel_rfl) (by kernel_rfl) (fun _ _ _ h => h) (Or.inl ⟨by rfl, ?_⟩) (by assumption) ?_
                  rotate_left
                  · intro w hSw
                    (try dsimp only at hSw)
                    go_simp
                    first | done | with_reducible rfl
                  simp only [Act.put, List.getElem_toArray, List.getElem_cons_succ, List.getElem_cons_zero, List.setIfInBounds_toArray, List.set_cons_zero, List.set_cons_succ]
                  refine wpAnyH_take (i := 8) (v := ?_) rfl (by kernel_rfl) (by kernel_rfl) (by kernel_rfl) (fun _ _ _ h => h) (Or.inl ⟨by rfl, ?_⟩) (by assumption) ?_
                  rotate_left
                  · intro w hSw
                    (try dsimp only at hSw)
                    go_simp
                    first | done | with_reducible rfl
                  simp only [Act.put, List.getElem_toArray, List.getElem_cons_succ, List.getElem_cons_zero, List.setIfInBounds_toArray, List.set_cons_zero, List.set_cons_succ]
                  refine wpAnyH_ready (rs := [9]) (by kernel_rfl) (by simp) ?_
                  refine AllReadyH.cons rfl (fun K hK => ?_) AllReadyH.nil
                  go_simp
                  refine (SG.out _ ((Below.refl _ _).drew)).mono ?_
                  rintro e w6 ⟨hb6', sv, rfl, hsv⟩
                  have hb6 : Below wr.heap.size wr w6 := ((Below.refl _ _).drew).trans hb6'
                  obtain ⟨pj, hpj⟩ : ∃ pj, pj = x5.getD j [] := ⟨_, rfl⟩
                  have hsv1 : OB w6 wr.heap.size sv pj := by rw [hpj]; exact hsv
                  have HPJ := Lib.hid hpj
                  clear hpj hsv
                  obtain ⟨A8, c8, rfl⟩ := own_slice hsv1
                  have HS6 := Lib.hid (HS2.out.on hb6)
                  have HT6 := Lib.hid (HT2.out.on hb6)
                  have HV6 := Lib.hid (show OB w6 B (.slice A8 pj.length c8) pj from own_base hsv1 HGB.out)
                  have HB6 := Lib.hid hb6
                  have g0 : w6.cell? ⟨bm, 0, none⟩ = some (.int .u16 (x0 : Int)) := HT6.out.box.cell (j := 0) rfl
                  have g1 : w6.cell? ⟨bm, 1, none⟩ = some (.int .u16 (x1 : Int)) := HT6.out.box.cell (j := 1) rfl
                  have g2 : w6.cell? ⟨bm, 2, none⟩ = some (.bool x2) := HT6.out.box.cell (j := 2) rfl
                  have g3 : w6.cell? ⟨bm, 3, none⟩ = some (.int .u32 (x3 : Int)) := HT6.out.box.cell (j := 3) rfl
                  have g4 : w6.cell? ⟨bm, 4, none⟩ = some (.int .u32 (x4 : Int)) := HT6.out.box.cell (j := 4) rfl
                  have g5 : w6.cell? ⟨bm, 5, none⟩ = some (.slice A7 x5.length c7) := HT6.out.box.cell (j := 5) rfl
                  have g6 : w6.cell? ⟨bm, 6, none⟩ = some (.int .u32 (x6 : Int)) := HT6.out.box.cell (j := 6) rfl
                  have g7 : w6.cell? ⟨bm, 7, none⟩ = some (.int .i64 x7) := HT6.out.box.cell (j := 7) rfl
                  have g8 : w6.cell? ⟨bm, 8, none⟩ = some (.int .i64 x8) := HT6.out.box.cell (j := 8) rfl
                  have g9 : w6.cell? ⟨bm, 9, none⟩ = some (.int .i64 x9) := HT6.out.box.cell (j := 9) rfl
                  have zb6 := HT6.out.box.lt
                  clear hb6 hb6' hsv1
                  go_simp
                  refine hK.out _ _ ⟨⟨g0, g1, g2, g3, g4, g5, g6, g7, g8, g9⟩, zb6⟩ (fun hHeld => ?_)
                  clear hK K
                  try simp only [Act.put, List.getElem_toArray, List.getElem_cons_succ, List.getElem_cons_zero, List.setIfInBounds_toArray, List.set_cons_zero, List.set_cons_succ]
                  refine wpAnyH_take (i := 10) (v := ?_) rfl (by kernel_rfl) (by kernel_rfl) (by kernel_rfl) (fun _ _ _ h => h) (Or.inl ⟨by rfl, ?_⟩) (by assumption) ?_
                  rotate_left
                  · intro w hSw
                    (try dsimp only at hSw)
                    go_simp
                    first | done | with_reducible rfl
                  simp only [Act.put, List.getElem_toArray, List.getElem_cons_succ, List.getElem_cons_zero, List.setIfInBounds_toArray, List.set_cons_zero, List.set_cons_succ]
                  refine wpAnyH_ready (rs := [11]) (by kernel_rfl) (by simp) ?_
                  refine AllReadyH.cons rfl (fun K hK => ?_) AllReadyH.nil
                  go_simp
                  first | (refine hK.out _ _ ?_ (fun hHeld => ?_)) | (go_wp2_with fail; refine hK.out _ _ ?_ (fun hHeld => ?_))
                  · (go_keep; try omega)
                  clear hK K
                  try simp only [Act.put, List.getElem_toArray, List.getElem_cons_succ, List.getElem_cons_zero, List.setIfInBounds_toArray, List.set_cons_zero, List.set_cons_succ]
                  refine wpAnyH_ready (rs := [12]) (by kernel_rfl) (by simp) ?_
                  refine AllReadyH.cons rfl (fun K hK => ?_) AllReadyH.nil
                  refine step_sl _ elOw rfl (.tmp 50) (.tmp 61) rfl rfl ((own_on HU2.out HB6.out).alloc _) rfl (Sl.lit _ _ _ 1 rfl (by simp [maxLen])) ?_ ?_ ?_ ?_
                  · exact owF_one (⟨x1, x0, x9, segL ⟨x0, x1, x2, x3, x4, x5, x6, x7, x8, x9⟩ j⟩, pj) rfl
                  · have := HLA1.out; omega
                  · exact Nat.le_trans HS6.out.ks.lt.2.2.2.2.2 (by simp)
                  intro v9 w9 hown9 hg9 _ _
                  have hS9 := (HS6.out.on (al1 w6 _)).addA (p := (⟨x1, x0, x9, segL ⟨x0, x1, x2, x3, x4, x5, x6, x7, x8, x9⟩ j⟩, pj)) (by rw [HU1.out, HLN.out]) HLN.out.symm ((own_on HU2.out HB6.out).alloc _) (fun i p u hp hu => (own_on (HU3.out i p u hp hu) HB6.out).alloc _) (HV6.out.alloc _) hown9 hg9
                  have hT9 := (HT6.out.on (al1 w6 _)).grown hg9 (BT.apart HT6.out (own_on HU2.out HB6.out) (by decide))
                  have HS9 := Lib.hid hS9
                  have HT9 := Lib.hid hT9
                  obtain ⟨A6, c6, rfl⟩ := own_form hown9
                  have k0 : w9.cell? ⟨bm, 0, none⟩ = some (.int .u16 (x0 : Int)) := hT9.box.cell (j := 0) rfl
                  have k1 : w9.cell? ⟨bm, 1, none⟩ = some (.int .u16 (x1 : Int)) := hT9.box.cell (j := 1) rfl
                  have k2 : w9.cell? ⟨bm, 2, none⟩ = some (.bool x2) := hT9.box.cell (j := 2) rfl
                  have k3 : w9.cell? ⟨bm, 3, none⟩ = some (.int .u32 (x3 : Int)) := hT9.box.cell (j := 3) rfl
                  have k4 : w9.cell? ⟨bm, 4, none⟩ = some (.int .u32 (x4 : Int)) := hT9.box.cell (j := 4) rfl
                  have k5 : w9.cell? ⟨bm, 5, none⟩ = some (.slice A7 x5.length c7) := hT9.box.cell (j := 5) rfl
                  have k6 : w9.cell? ⟨bm, 6, none⟩ = some (.int .u32 (x6 : Int)) := hT9.box.cell (j := 6) rfl
                  have k7 : w9.cell? ⟨bm, 7, none⟩ = some (.int .i64 x7) := hT9.box.cell (j := 7) rfl
                  have k8 : w9.cell? ⟨bm, 8, none⟩ = some (.int .i64 x8) := hT9.box.cell (j := 8) rfl
                  have k9 : w9.cell? ⟨bm, 9, none⟩ = some (.int .i64 x9) := hT9.box.cell (j := 9) rfl
                  have zb9 := hT9.box.lt
                  clear hS9 hT9 hown9 hg9
                  refine hK.out _ _ ⟨⟨k0, k1, k2, k3, k4, k5, k6, k7, k8, k9⟩, zb9⟩ (fun hHeld => ?_)
                  clear hK K
                  simp only [Act.put, List.getElem_toArray, List.getElem_cons_succ, List.getElem_cons_zero, List.setIfInBounds_toArray, List.set_cons_zero, List.set_cons_succ]
                  refine wpAnyH_take (i := 13) (v := ?_) rfl (by kernel_rfl) (by kernel_rfl) (by kernel_rfl) (fun _ _ _ h => h) (Or.inl ⟨by rfl, ?_⟩) (by assumption) ?_
                  rotate_left
                  · intro w hSw
                    (try dsimp only at hSw)
                    go_simp
                    first | done | with_reducible rfl
                  simp only [Act.put, List.getElem_toArray, List.getElem_cons_succ, List.getElem_cons_zero, List.setIfInBounds_toArray, List.set_cons_zero, List.set_cons_succ]
                  refine wpAnyH_done (by kernel_rfl) ?_ _
                  refine NoPanic.normal ?_
                  clear hHeld g0 k0 e0 g1 k1 e1 g2 k2 e2 g3 k3 e3 g4 k4 e4 g5 k5 e5 g6 k6 e6 g7 k7 e7 g8 k8 e8 g9 k9 e9 zb6 zb9 zb hq SG
                  go_wp2_with fail
                  go_roundw
                  case rel => exact ⟨j + 1, by omega, by go_num, by rw [segsW_yes h0, ← List.append_assoc, show partW ⟨x0, x1, x2, x3, x4, x5, x6, x7, x8, x9⟩ j = (⟨x1, x0, x9, segL ⟨x0, x1, x2, x3, x4, x5, x6, x7, x8, x9⟩ j⟩, pj) by rw [HPJ.out]; rfl]; exact HS9.out, HT9.out⟩
                  case measure => simp [intOf]; omega
                · have hq : (bits BinOp.and IntKind.u32 ((x6 : Int) / 2 ^ j) 1 == 0) = false := by
                    rw [hbit]
                    have : x6 / 2 ^ j % 2 = 1 := by omega
                    rw [this]
                    rfl
                  clear hS hT hbit
                  go_wp2_with fail
                  go_roundw
                  case rel => exact ⟨j + 1, by omega, by go_num, by rw [segsW_no h0]; exact HS2.out, HT2.out⟩
                  case measure => simp [intOf]; omega
              · have hje : j = x5.length := by omega
                subst hje
                have hx8 := hwx.2.2.2.1
                dsimp only at hx8
                have hw1 : IntKind.i64.wrap (x8 + 1) = x8 + 1 := IntWalk.i64_in _ (by omega)
                have hw2 : IntKind.i64.wrap (now + 20) = now + 20 := IntWalk.i64_in _ (by omega)
                have f7 := hT.box.free 7
                have f8 := hT.box.free 8
                clear hS hT
                go_upto_region 20 with fail
                obtain ⟨V, hV⟩ : ∃ V, V = (wr.setCell ⟨bm, 8, none⟩ (.int .i64 (x8 + 1))).setCell ⟨bm, 7, none⟩ (.int .i64 (now + 20)) := ⟨_, rfl⟩
                have HTV := Lib.hid (show BT V bm 75 (outCs ⟨x0, x1, x2, x3, x4, x5, x6, now + 20, x8 + 1, x9⟩ (.slice A7 x5.length c7)) by rw [hV]; exact (HT2.out.set 8 _).set 7 _)
                have HSV := Lib.hid (show ASt os is w V B w.heap.size (w.heap.size + 1) g q N M xs ys k u5 u6 u7 (A ++ segsW ⟨x0, x1, x2, x3, x4, x5, x6, x7, x8, x9⟩ x5.length) L O by
                  rw [hV]
                  have hbg : bm ≠ g := by have := HGM.out; omega
                  exact (HS2.out.boxed HT2.out HBM.out rfl hbg HAP.out 8 _).boxed (HT2.out.set 8 _) HBM.out rfl hbg HAP.out 7 _)
                rw [← hV]
                clear hV e0 e1 e2 e3 e4 e5 e6 e7 e8 e9 f7 f8 zb HT2 HS2 hw1 hw2
                have e0 := HTV.out.box.cell (j := 0) rfl
                have e1 := HTV.out.box.cell (j := 1) rfl
                have e2 := HTV.out.box.cell (j := 2) rfl
                have e3 := HTV.out.box.cell (j := 3) rfl
                have e4 := HTV.out.box.cell (j := 4) rfl
                have e5 := HTV.out.box.cell (j := 5) rfl
                have e6 := HTV.out.box.cell (j := 6) rfl
                have e7 := HTV.out.box.cell (j := 7) rfl
                have e8 := HTV.out.box.cell (j := 8) rfl
                have e9 := HTV.out.box.cell (j := 9) rfl
                dsimp only at e0 e1 e2 e3 e4 e6 e7 e8 e9
                obtain ⟨zs, z1, z2, z3⟩ := HSV.out.out
                obtain ⟨A5, c5, rfl⟩ := own_form z1
                have HZ1 := Lib.hid z1
                have HZ2 := Lib.hid z2
                have HZ3 := Lib.hid z3
                have HBB := Lib.hid (show B ≤ V.heap.size from HSV.out.ks.lt.2.2.2.2.2)
                clear z1 z2 z3
                go_wp2_with (first
                  | (at_builtin
                     refine app_sl _ elO rfl (.tmp 71) (.tmp 73) rfl rfl (HZ1.out.alloc _) rfl (Sl.lit _ _ _ 1 rfl (by simp [maxLen])) ?_ ?_ ?_ ?_
                     (case refine_1 => exact outCs_one ⟨x0, x1, x2, x3, x4, x5, x6, now + 20, x8 + 1, x9⟩ rfl)
                     (case refine_2 => have := HLO.out; omega)
                     (case refine_3 => exact Nat.le_trans HBB.out (by simp))
                     intro v9 w9 hown9 hg9 hnil9 hat9))
                have HS9 := Lib.hid ((HSV.out.on (al1 _ _)).addO (o' := ⟨x0, x1, x2, x3, x4, x5, x6, now + 20, x8 + 1, x9⟩) (HZ1.out.alloc _) (HZ2.out.on (al1 _ _)) HZ3.out HX.out HY.out rfl hown9 hg9 hat9)
                clear hown9 hg9 hnil9 hat9
                go_wp2_with fail
                go_roundw
                case rel => exact ⟨k + 1, by omega, by go_num, by rw [HEA.out, HEL.out, HEO.out]; exact HS9.out⟩
                case measure => simp [intOf]; omega
          · have ht1 : decide (x8 < mo) = false := decide_eq_false ht
            rw [if_neg ht] at HEA HEL HEO
            rw [List.append_nil] at HEA HEO
            have e0 := HT1.out.box.cell (j := 0) rfl
            rcases nd with _ | _
            · rw [if_neg (by simp), List.append_nil] at HEL
              go_wp2_with fail
              refine (CN.out _).mono ?_
              rintro e w3 ⟨rfl, rfl⟩
              go_wp2_with fail
              go_roundw
              case rel => exact ⟨k + 1, by omega, by go_num, by rw [HEA.out, HEL.out, HEO.out]; exact HS1.out.more (Nat.le_succ _)⟩
              case measure => simp [intOf]; omega
            · rw [if_pos rfl] at HEL
              go_wp2_with fail
              refine (CN.out _).mono ?_
              rintro e w3 ⟨rfl, rfl⟩
              have hl1 := HS1.out.lost
              obtain ⟨A6, c6, rfl⟩ := own_form hl1
              have HL1 := Lib.hid hl1
              have HBB := Lib.hid (show B ≤ wc.heap.size from HS1.out.ks.lt.2.2.2.2.2)
              clear hl1
              go_wp2_with (first
                | (at_builtin
                   refine app_sl _ elU rfl (.tmp 79) (.tmp 82) rfl rfl (HL1.out.alloc _) rfl (Sl.lit _ _ _ 1 rfl (by simp [maxLen])) ?_ ?_ ?_ ?_
                   (case refine_1 => intro u hu; simp at hu; subst hu; rfl)
                   (case refine_2 => have := HLL.out; omega)
                   (case refine_3 => exact Nat.le_trans HBB.out (by simp))
                   intro v9 w9 hown9 hg9 hnil9 hat9))
              have HS9 := Lib.hid ((HS1.out.on (al1 _ _)).addL hown9 hg9)
              clear hown9 hg9 hnil9 hat9
              go_wp2_with fail
              go_roundw
              case rel => exact ⟨k + 1, by omega, by go_num, by rw [HEA.out, HEL.out, HEO.out]; exact HS9.out.more (Nat.le_succ _)⟩
              case measure => simp [intOf]; omega
    · have hkN : k = N := by omega
      subst hkN
      rw [← HN.out, List.take_length] at hS
      rw [HN.out] at hS
      obtain ⟨zs, z1, _, _⟩ := id hS.out
      obtain ⟨A5, c5, rfl⟩ := own_form z1
      clear z1
      generalize hon : (againO os now).length = on at *
      clear hon
      have p1 := hS.ks.bt.cell (j := 1) rfl
      have p0 := hS.ks.bt.cell (j := 0) rfl
      have f0 := hS.ks.bt.free 0
      have z0 := hS.ks.bt.lt
      have HFI := Lib.hid hS.fin
      have HLT := Lib.hid hS.ks.lt
      clear hS HS
      go_upto_region 25 with fail
      obtain ⟨V, hV⟩ : ∃ V, V = wr.setCell ⟨w.heap.size, 0, none⟩ (.slice A5 on c5) := ⟨_, rfl⟩
      rw [← hV] at HFI ⊢
      clear hV p0 p1 f0 z0
      obtain ⟨hR, hA, hL⟩ := HFI.out
      have p0 := hR.bt.cell (j := 0) rfl
      have p1 := hR.bt.cell (j := 1) rfl
      have e0 := hR.br.cell (j := 0) rfl
      have e1 := hR.br.cell (j := 1) rfl
      have f0 := hR.br.free 0
      have f1 := hR.br.free 1
      have z0 := hR.br.lt
      have HRT := Lib.hid hR.ret
      have HAA := Lib.hid hA
      have HLL := Lib.hid hL
      clear hR hA hL HFI
      go_wp2_with fail
      refine bodyPost_ret (res_tr3b rfl _ _ (w.heap.size + 1) (.slice A5 on c5) (.slice (some ⟨q, 0, none⟩) M M) rfl ?_) rfl (HQ.out _ _ ⟨?_, _, _, _, _, rfl, ?_, ?_, ?_, ?_⟩)
      · exact HRT.out.1
      · exact HRT.out.2.1
      · exact HRT.out.2.2.1
      · exact HRT.out.2.2.2
      · exact ((HAA.out.far HLT.out.2.1 0 _).far HLT.out.2.1 1 _).upto (by have := HLT.out.1; omega)
      · exact (Sl2.of_own (own_far (own_far HLL.out HLT.out.2.1 0 _) HLT.out.2.1 1 _)).mono (by have := HLT.out.1; omega) (Nat.le_refl _)
end Go.Proofs.Ytkpjinkkjbljkaa
