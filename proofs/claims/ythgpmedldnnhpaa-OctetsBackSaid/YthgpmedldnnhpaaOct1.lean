/- Walks of package octets: Put. -/
import Derived.Test.YthgpmedldnnhpaaOctPlain
namespace Go.Proofs.Ythgpmedldnnhpaa
open Go.RowKit

theorem elB : El Try.prog 23 5 1 1 := el_mk Try.underlying23 (z := .int .u8 0) (by kernel_rfl) rfl (by omega) (by omega)
theorem elF : El Try.prog 22 47 2 16 := el_mk Try.underlying22 (z := .agg #[.int .i64 0, .int .u64 0]) (by kernel_rfl) rfl (by omega) (by omega)
theorem elN : El Try.prog 32 45 1 8 := el_mk Try.underlying32 (z := .int .u64 0) (by kernel_rfl) rfl (by omega) (by omega)
theorem elI : El Try.prog 31 3 1 8 := el_mk Try.underlying31 (z := .int .i64 0) (by kernel_rfl) rfl (by omega) (by omega)
theorem elP : El Try.prog 53 23 1 24 := el_mk Try.underlying53 (z := .slice none 0 0) (by kernel_rfl) rfl (by omega) (by omega)

set_option maxHeartbeats 400000 in
theorem sized_yes (n : Int) (w : World) (h1 : 1 ≤ n) (h2 : n ≤ 8) : Calls Try.prog 24 #[.int .i64 n] w fun e w' => e = .returned (.bool true) ∧ w = w' := by
  go_enter Try.func24, Try.ntmps24
  go_wp2
  go_ret
  exact ⟨rfl, rfl⟩
set_option maxHeartbeats 400000 in
theorem sized_no (n : Int) (w : World) (h : n < 1 ∨ 8 < n) : Calls Try.prog 24 #[.int .i64 n] w fun e w' => e = .returned (.bool false) ∧ w = w' := by
  rcases h with h | h
  · go_enter Try.func24, Try.ntmps24
    go_wp2
    go_ret
    exact ⟨rfl, rfl⟩
  · have h' : 1 ≤ n := by omega
    have h'' : decide (n ≤ 8) = false := by simp; omega
    go_enter Try.func24, Try.ntmps24
    go_wp2
    go_ret
    exact ⟨rfl, rfl⟩

/-- What Put leaves: the bytes in a row of its own, or the error. -/
def PutPost (w : World) (l : List (Int × Nat)) (e : Ending) (w' : World) : Prop :=
  Below w.heap.size w w' ∧ match putS l with
    | some ys => ∃ v, e = .returned (.tuple #[v, .int .i64 0]) ∧ w'.ownsRow w.heap.size 5 1 v ys.length (bys ys)
    | none => e = .returned (.tuple #[.slice none 0 0, .int .i64 5])

set_option maxRecDepth 100000 in
set_option maxHeartbeats 1000000 in
theorem put_any (l : List (Int × Nat)) (hv : ∀ f ∈ l, f.2 < 2 ^ 64) (hlen : l.length ≤ 8796093022208) (A : Option Addr) (c : Nat) (w : World) (hs : Sl w w.heap.size 2 (.slice A l.length c) l.length (flds l)) :
    Calls Try.prog 9 #[.slice A l.length c] w (PutPost w l) := by
  have HS := Lib.hid hs
  have HV := Lib.hid hv
  clear hs hv
  go_enter Try.func9, Try.ntmps9
  go_wp2_with fail
  go_loopw [4, 10] (fun v i wr => ∃ (k : Nat) (ys : List UInt8), k ≤ l.length ∧ i = .int .i64 k ∧ putS (l.take k) = some ys ∧ wr.ownsRow w.heap.size 5 1 v ys.length (bys ys) ∧ Below w.heap.size w wr) (fun _ i _ => l.length - (intOf i).toNat)
  case atStart => exact ⟨0, [], Nat.zero_le _, rfl, by simp [putS], World.ownsRow_nil _ _ _ _, Below.refl _ _⟩
  case round =>
    obtain ⟨k, ys, hk, rfl, hput, hown, hbel⟩ := hrel
    obtain ⟨wo, rfl⟩ : ∃ wo : World, wo = wr := ⟨_, rfl⟩
    have HP := Lib.hid hput
    have HO := Lib.hid hown
    have HB := Lib.hid hbel
    clear hput hown hbel
    by_cases hlt : k < l.length
    · obtain ⟨b, off, rfl, hbB, hcell⟩ := (HS.out.below HB.out).cells (flds_at hlt).1
      have hc0 := hcell _ _ (flds_at hlt).1
      have hc1 := hcell _ _ (flds_at hlt).2
      rw [← Nat.add_assoc] at hc1
      clear hcell
      generalize hx : (l[k]).1 = s at *
      generalize hy : (l[k]).2 = x at *
      have HX := Lib.hid hx
      have HY := Lib.hid hy
      clear hx hy
      by_cases hsz : s < 1 ∨ 8 < s
      · go_wp2_with fail
        refine (sized_no s _ hsz).mono ?_
        rintro e w1 ⟨rfl, rfl⟩
        go_wp2_with fail
        go_ret2
        have hbad : putS l = none := putS_bad hlt (by rw [show l[k] = (s, x) from Prod.ext HX.out HY.out]; unfold fok; rw [decide_eq_false]; simp only; omega)
        refine ⟨HB.out.alloc HB.out.size _, ?_⟩
        rw [hbad]
        rfl
      · obtain ⟨m, rfl⟩ := Int.eq_ofNat_of_zero_le (show 0 ≤ s by omega)
        have h1 : 1 ≤ m := by omega
        have h2 : m ≤ 8 := by omega
        have hm : (8 * (m : Int)).toNat = 8 * m := by omega
        by_cases hbad : m < 8 ∧ ((x : Int) / 2 ^ (8 * m) != 0) = true
        · obtain ⟨h8, h9⟩ := hbad
          go_wp2_with fail
          refine (sized_yes m _ (by omega) (by omega)).mono ?_
          rintro e w1 ⟨rfl, rfl⟩
          go_wp2_with fail
          go_ret2
          have hbad : putS l = none := putS_bad hlt (by
            rw [show l[k] = ((m : Int), x) from Prod.ext HX.out HY.out]
            rw [shr_ne] at h9
            unfold fok
            rw [decide_eq_false]
            simp only [Int.toNat_natCast]
            simp at h9
            omega)
          refine ⟨HB.out.alloc HB.out.size _, ?_⟩
          rw [hbad]
          rfl
        · have hx64 := HV.out l[k] (List.getElem_mem hlt)
          have hxm : x < 2 ^ (8 * m) := by
            rw [HY.out] at hx64
            by_cases h8 : m < 8
            · have : ¬ ((x : Int) / 2 ^ (8 * m) != 0) = true := fun h => hbad ⟨h8, h⟩
              rw [shr_ne] at this
              simpa using this
            · obtain rfl : m = 8 := by omega
              exact hx64
          clear hx64
          have hfok : fok ((m : Int), x) = true := by
            unfold fok
            rw [decide_eq_true]
            exact ⟨by simp only; omega, by simp only; omega, by simpa using hxm⟩
          have hput' : putS (l.take (k + 1)) = some (ys ++ le m x) := by
            rw [putS_take hlt, HP.out, show l[k] = ((m : Int), x) from Prod.ext HX.out HY.out]
            simp [putStep, hfok]
          have HP' := Lib.hid hput'
          have hsh : (((x : Int) / 2 ^ (8 * m) != 0) = false) := by rw [shr_ne]; simpa using hxm
          have HXM := Lib.hid hxm
          have hyl : ys.length ≤ 8 * k := putS_len k ys (by omega) HP.out
          clear hput' hfok hbad hxm
          have h8 : m < 8 ∨ 8 ≤ m := by omega
          rcases h8 with h8 | h8
          all_goals
            go_wp2_with fail
            refine (sized_yes m _ (by omega) (by omega)).mono ?_
            rintro e w1 ⟨rfl, rfl⟩
            go_wp2_with fail
            go_loopw [4, 34] (fun v j wi => ∃ jj : Nat, jj ≤ m ∧ j = .int .i64 jj ∧ wi.ownsRow w.heap.size 5 1 v (ys.length + jj) (bys (ys ++ le jj x)) ∧ v.ownBlock ≠ some wo.heap.size ∧
              wi.cell? ⟨wo.heap.size, 0, none⟩ = some (.int .i64 m) ∧ wi.cell? ⟨wo.heap.size, 1, none⟩ = some (.int .u64 x) ∧ Below w.heap.size w wi ∧ wo.heap.size < wi.heap.size) (fun _ j _ => m - (intOf j).toNat)
            case atStart =>
              refine ⟨0, Nat.zero_le _, rfl, by simpa [le] using HO.out.alloc _, fun e => ?_, by go_simp, by go_simp, HB.out.alloc HB.out.size _, by simp⟩
              have := (HO.out.lt _ e).2
              omega
            case round =>
              obtain ⟨jj, hjj, rfl, hown, hne, hc0, hc1, hbel, hsz⟩ := hrel
              have HO' := Lib.hid hown
              have HN' := Lib.hid hne
              have HB' := Lib.hid hbel
              clear hown hne hbel
              by_cases hjlt : jj < m
              · have hj8 : (8 * (jj : Int)).toNat = 8 * jj := by omega
                go_wp2_with (first
                  | (at_builtin
                     refine app_sl _ elB rfl (.tmp 37) (.tmp 44) rfl rfl (HO'.out.alloc _) rfl (Sl.lit _ _ _ 1 rfl (by simp [maxLen])) ?_ ?_ ?_ ?_
                     (case refine_1 => intro u hu; simp at hu; subst hu; rfl)
                     (case refine_2 => omega)
                     (case refine_3 => exact Nat.le_trans HB'.out.size (by simp))
                     intro v1 w1 hown1 hg1 hnil1 hat1))
                have hne1 : v1.ownBlock ≠ some wo.heap.size := by
                  rcases hat1 with e | e
                  · rw [e]; exact HN'.out
                  · rw [e]; simp; omega
                have hk0 : w1.cell? ⟨wo.heap.size, 0, none⟩ = some (.int .i64 m) := by
                  rw [World.cell?_of_block (a := ⟨wo.heap.size, 0, none⟩) (hg1.block wo.heap.size (by simp; omega) (Ne.symm HN'.out))]
                  go_simp
                have hk1 : w1.cell? ⟨wo.heap.size, 1, none⟩ = some (.int .u64 x) := by
                  rw [World.cell?_of_block (a := ⟨wo.heap.size, 1, none⟩) (hg1.block wo.heap.size (by simp; omega) (Ne.symm HN'.out))]
                  go_simp
                have hb1 : Below w.heap.size w w1 := below_app (HB'.out.alloc HB'.out.size _) (HO'.out.alloc _) hg1 (Nat.le_refl _) (Nat.le_trans HB'.out.size (by simp))
                have hs1 : wo.heap.size < w1.heap.size := by have := hg1.size; simp at this; omega
                have K1 := Lib.hid hown1
                have K2 := Lib.hid hne1
                have K3 := Lib.hid hk0
                have K4 := Lib.hid hk1
                have K5 := Lib.hid hb1
                have K6 := Lib.hid hs1
                clear hown1 hg1 hnil1 hat1 hne1 hk0 hk1 hb1 hs1 hc0 hc1
                go_wp2
                go_roundw
                case rel => exact ⟨jj + 1, by omega, by go_num, by rw [← bys_le_succ]; exact K1.out, K2.out, K3.out, K4.out, K5.out, K6.out⟩
                case measure => simp [intOf]; omega
              · obtain rfl : jj = m := by omega
                go_wp2_with fail
                go_roundw
                case rel => exact ⟨k + 1, ys ++ le jj x, by omega, by go_num, HP'.out, by rw [List.length_append, le_length]; exact HO'.out, HB'.out⟩
                case measure => simp [intOf]; omega
    · go_wp2_with fail
      go_ret2
      obtain rfl : k = l.length := by omega
      have hp := HP.out
      rw [List.take_length] at hp
      refine ⟨HB.out, ?_⟩
      rw [hp]
      exact ⟨u4, rfl, HO.out⟩

end Go.Proofs.Ythgpmedldnnhpaa
