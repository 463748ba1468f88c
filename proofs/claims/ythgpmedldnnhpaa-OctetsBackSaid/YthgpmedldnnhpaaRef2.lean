/- Walks of the reference of octets: Value, Put. -/
import Derived.Test.YthgpmedldnnhpaaRef1
import Derived.Test.YthgpmedldnnhpaaOctPlain2
namespace Go.Proofs.Ythgpmedldnnhpaa
open Go.RowKit

theorem quiet_here {P : Program} {f : FuncId} {args : Array Value} {w : World} {n : Nat} {v : Value}
    (h : Calls P f args (w.drewN n) fun e w' => e = .returned v ∧ w.drewN n = w') : Calls P f args (w.drewN n) fun e w'' => e = .returned v ∧ ∃ m, w'' = w.drewN m :=
  h.mono fun _ _ ⟨he, hm⟩ => ⟨he, n, hm.symm⟩

set_option maxHeartbeats 400000 in
theorem value_any (l : List UInt8) (A : Option Addr) (c : Nat) (w : World) (B : Nat) (hb : BS w B (.slice A l.length c) l) (hl : l.length ≤ 8) :
    Calls Try.prog 27 #[.slice A l.length c] w fun e w' => e = .returned (.int .u64 ((leVal l : Nat) : Int)) ∧ w = w' := by
  have HB := Lib.hid hb
  clear hb
  go_enter Try.func27, Try.ntmps27
  go_wp2_with fail
  go_loop [3, 4] (fun v i => ∃ (j : Nat) (i0 : Int), j ≤ l.length ∧ i = .int .i64 i0 ∧ i0 = (j : Int) - 1 ∧ v = .int .u64 ((leVal (l.drop j) : Nat) : Int)) (fun _ i => (intOf i + 1).toNat)
  case atStart => exact ⟨l.length, _, Nat.le_refl _, rfl, rfl, by simp [leVal]⟩
  case round =>
    obtain ⟨j, i0, hj, rfl, hi0, rfl⟩ := hrel
    rcases j with _ | j
    · obtain rfl : i0 = -1 := by omega
      clear hi0
      go_wp2_with fail
      go_ret
      exact ⟨rfl, rfl⟩
    · obtain rfl : i0 = (j : Int) := by omega
      clear hi0
      obtain ⟨b, off, rfl, hB, hcell⟩ := HB.out.cells (bys_at (show j < l.length by omega))
      have hc0 := hcell j _ (bys_at (by omega))
      clear hcell
      have hd : l.drop j = l[j] :: l.drop (j + 1) := List.drop_eq_getElem_cons (by omega)
      have hlt := leVal_lt (l.drop (j + 1))
      have hx := l[j].toNat_lt
      have hp : 2 ^ (8 * (l.drop (j + 1)).length) ≤ 2 ^ 56 := Nat.pow_le_pow_right (by omega) (by rw [List.length_drop]; omega)
      have he : leVal (l.drop j) = l[j].toNat + 256 * leVal (l.drop (j + 1)) := by rw [hd]; rfl
      generalize l[j] = x at *
      generalize hy : leVal (l.drop (j + 1)) = y at *
      have hy2 : y ≤ 72057594037927935 := by omega
      have hx2 : x.toNat ≤ 255 := by omega
      have HE := Lib.hid he
      clear hd hlt hx hp he hy
      go_wp2_with fail
      go_round
      case rel => exact ⟨j, _, by omega, rfl, rfl, int_ext (by rw [HE.out]; omega)⟩
      case measure => simp [intOf]

theorem low_quiet (x m r : Nat) (w : World) (n : Nat) (hm : m ≤ 8) (hx : x < 2 ^ 64) (hr : x % 2 ^ (8 * m) = r) :
    Calls Try.prog 25 #[.int .u64 (x : Int), .int .i64 (8 * (m : Int))] (w.drewN n) fun e w'' => e = .returned (.int .u64 (r : Int)) ∧ ∃ k, w'' = w.drewN k := by
  have h := low_any x (8 * m) (w.drewN n) (by omega) hx
  rw [hr] at h
  refine quiet_here ?_
  have e : (8 * (m : Int)) = ((8 * m : Nat) : Int) := by omega
  rw [e]
  exact h

set_option maxRecDepth 100000 in
set_option maxHeartbeats 1000000 in
theorem refput_any (l : List (Int × Nat)) (hv : ∀ f ∈ l, f.2 < 2 ^ 64) (hlen : l.length ≤ 8796093022208) (A : Option Addr) (c : Nat) (w : World) (hs : Sl w w.heap.size 2 (.slice A l.length c) l.length (flds l)) :
    Calls Try.prog 10 #[.slice A l.length c] w (PutPost w l) := by
  have HS := Lib.hid hs
  have HV := Lib.hid hv
  clear hs hv
  go_enter Try.func10, Try.ntmps10
  go_wp2_with fail
  go_loopw [4, 5] (fun v i wr => ∃ (k : Nat) (ys : List UInt8), k ≤ l.length ∧ i = .int .i64 k ∧ putS (l.take k) = some ys ∧ wr.ownsRow w.heap.size 5 1 v ys.length (bys ys) ∧ Below w.heap.size w wr) (fun _ i _ => l.length - (intOf i).toNat)
  case atStart => exact ⟨0, [], Nat.zero_le _, rfl, by simp [putS], by simpa [bys] using World.ownsRow_lit (base := w.heap.size) (e := 5) (size := 1) w #[] 0 (Nat.le_refl _) (by simp [maxLen]) rfl, al1 _ _⟩
  case round =>
    obtain ⟨k, ys, hk, rfl, hput, hown, hbel⟩ := hrel
    obtain ⟨wo, rfl⟩ : ∃ wo : World, wo = wr := ⟨_, rfl⟩
    have HP := Lib.hid hput
    have HO := Lib.hid hown
    have HB := Lib.hid hbel
    clear hput hown hbel
    by_cases hlt : k < l.length
    · obtain ⟨b, off, rfl, hbB, hcell⟩ := (HS.out.below HB.out).cells (flds_at hlt).1
      have hc0 := hcell _ _ (flds_at hlt).1
      have hc1 := hcell _ _ (flds_at hlt).2
      rw [← Nat.add_assoc] at hc1
      clear hcell
      generalize hx : (l[k]).1 = s at *
      generalize hy : (l[k]).2 = x at *
      have HX := Lib.hid hx
      have HY := Lib.hid hy
      clear hx hy
      by_cases hsz : s < 1 ∨ 8 < s
      · have hbad : putS l = none := putS_bad hlt (by rw [show l[k] = (s, x) from Prod.ext HX.out HY.out]; unfold fok; rw [decide_eq_false]; simp only; omega)
        have HBAD := Lib.hid hbad
        clear hbad
        rcases hsz with hsz | hsz
        · go_wp2_with fail
          go_quiet (fail)
          go_wp2_with fail
          go_ret2
          refine ⟨below_drewN (HB.out.alloc HB.out.size _) _, ?_⟩
          rw [HBAD.out]
          rfl
        · have hsz' : 1 ≤ s := by omega
          have hd1 : decide (s < 1) = false := by simp; omega
          go_wp2_with fail
          go_quiet (fail)
          go_wp2_with fail
          go_ret2
          refine ⟨below_drewN (HB.out.alloc HB.out.size _) _, ?_⟩
          rw [HBAD.out]
          rfl
      · obtain ⟨m, rfl⟩ := Int.eq_ofNat_of_zero_le (show 0 ≤ s by omega)
        have h1 : 1 ≤ m := by omega
        have h2 : m ≤ 8 := by omega
        have hx64 := HV.out l[k] (List.getElem_mem hlt)
        rw [HY.out] at hx64
        have hd1 : decide ((m : Int) < 1) = false := by simp; omega
        have hd2 : decide ((8 : Int) < m) = false := by simp; omega
        have HX64 := Lib.hid hx64
        clear hx64
        by_cases hxm : x < 2 ^ (8 * m)
        · have hmod : x % 2 ^ (8 * m) = x := Nat.mod_eq_of_lt hxm
          have hfok : fok ((m : Int), x) = true := by
            unfold fok
            rw [decide_eq_true]
            exact ⟨by simp only; omega, by simp only; omega, by simpa using hxm⟩
          have hput' : putS (l.take (k + 1)) = some (ys ++ le m x) := by
            rw [putS_take hlt, HP.out, show l[k] = ((m : Int), x) from Prod.ext HX.out HY.out]
            simp [putStep, hfok]
          have hyl : ys.length ≤ 8 * k := putS_len k ys (by omega) HP.out
          have HP' := Lib.hid hput'
          have HMOD := Lib.hid hmod
          clear hput' hfok hxm hmod
          go_wp2_with fail
          go_quiet ((go_at_call 25; exact low_quiet x m x _ _ (by omega) HX64.out HMOD.out))
          go_wp2_with fail
          refine (num_any m x _ (by omega) HX64.out).mono ?_
          rintro e w1 ⟨hb1, u, rfl, hu⟩
          rw [le_length] at hu
          have hB1 : Below wo.heap.size wo w1 := (below_drewN (al1 wo _) _).trans (hb1.mono (by simp))
          have hown1 := own_on HO.out hB1
          have hbel1 := HB.out.trans (hB1.mono HB.out.size)
          have hne1 : ∀ g, u4.ownBlock = some g → u.ownBlock ≠ some g := by
            intro g h1 h2
            have h3 := (HO.out.lt g h1).2
            have h4 := (hu.lt g h2).1
            simp at h4
            omega
          have hu1 := Sl.of_own hu
          have J1 := Lib.hid hown1
          have J2 := Lib.hid hbel1
          have J3 := Lib.hid hu1
          have J4 := Lib.hid hB1
          clear hb1 hu hB1 hown1 hbel1 hne1 hu1 hc0 hc1
          go_wp2_with (first
            | (at_builtin
               refine app_sl _ elB rfl (.tmp 37) (.tmp 42) rfl rfl J1.out rfl J3.out ?_ ?_ ?_ ?_
               (case refine_1 => exact bys_one _)
               (case refine_2 => omega)
               (case refine_3 => exact Nat.le_trans HB.out.size J4.out.size)
               intro v1 w2 hown2 hg2 hnil2 hat2))
          have hb2 : Below w.heap.size w w2 := below_app J2.out J1.out hg2 (Nat.le_refl _) (Nat.le_trans HB.out.size J4.out.size)
          have K1 := Lib.hid hown2
          have K5 := Lib.hid hb2
          clear hown2 hg2 hnil2 hat2 hb2
          go_wp2
          go_roundw
          case rel => exact ⟨k + 1, ys ++ le m x, by omega, by go_num, HP'.out, by rw [List.length_append, le_length, bys_append]; exact K1.out, K5.out⟩
          case measure => simp [intOf]; omega
        · have hmod : x % 2 ^ (8 * m) < x := Nat.lt_of_lt_of_le (Nat.mod_lt _ (Nat.two_pow_pos _)) (by omega)
          have hbad : putS l = none := putS_bad hlt (by
            rw [show l[k] = ((m : Int), x) from Prod.ext HX.out HY.out]
            unfold fok
            rw [decide_eq_false]
            simp only [Int.toNat_natCast]
            omega)
          have HBAD := Lib.hid hbad
          clear hbad hxm
          generalize hr : x % 2 ^ (8 * m) = r at *
          have HR := Lib.hid hr
          clear hr
          have hne : (((r : Int) != (x : Int)) = true) := by rw [bne_iff_ne]; omega
          go_wp2_with fail
          go_quiet ((go_at_call 25; exact low_quiet x m r _ _ (by omega) HX64.out HR.out))
          go_wp2_with fail
          go_ret2
          refine ⟨below_drewN (HB.out.alloc HB.out.size _) _, ?_⟩
          rw [HBAD.out]
          rfl
    · go_wp2_with fail
      go_ret2
      obtain rfl : k = l.length := by omega
      have hp := HP.out
      rw [List.take_length] at hp
      refine ⟨HB.out, ?_⟩
      rw [hp]
      exact ⟨_, rfl, HO.out⟩
end Go.Proofs.Ythgpmedldnnhpaa
