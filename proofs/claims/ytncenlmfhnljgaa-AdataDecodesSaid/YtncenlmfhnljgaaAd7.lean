/- Walks of the reference of adata: Same. No condition. -/
import Derived.Test.YtncenlmfhnljgaaAd6
namespace Go.Proofs.Ytncenlmfhnljgaa
open Go.RowKit

theorem quiet_at {P : Program} {f : FuncId} {args : Array Value} {w : World} {n : Nat} {v : Value}
    (h : Calls P f args (w.drewN n) fun e w' => e = .returned v ∧ w.drewN n = w') : Calls P f args (w.drewN n) fun e w'' => e = .returned v ∧ ∃ m, w'' = w.drewN m :=
  h.mono fun _ _ ⟨he, hm⟩ => ⟨he, n, hm.symm⟩
theorem bs_drew {w : World} {v : Value} {l : List UInt8} (h : BS w w.heap.size v l) (n : Nat) : BS (w.drewN n) (w.drewN n).heap.size v l := h.on (below_drewN (Below.refl _ _) n)
set_option maxRecDepth 100000 in
set_option maxHeartbeats 1000000 in
theorem samel_any (a b : Value) (es ks : List (Int × List UInt8)) (w : World) (ha : ElsV w w.heap.size a es) (hb : ElsV w w.heap.size b ks) (hle : es.length ≤ 1099511627776) :
    Calls Try.prog 17 #[a, b] w fun e w' => e = .returned (.bool (decide (es = ks))) ∧ Below w.heap.size w w' := by
  obtain ⟨A, c, rfl⟩ := ha.form
  obtain ⟨A', c', rfl⟩ := hb.form
  have HA := Lib.hid ha
  have HB := Lib.hid hb
  have HLE := Lib.hid hle
  clear ha hb hle
  by_cases hl : ks.length = es.length
  · have HL := Lib.hid hl
    rw [hl]
    clear hl
    go_enter Try.func17, Try.ntmps17
    go_wp2_with fail
    go_loopw [5] (fun i wr => ∃ j : Nat, j ≤ es.length ∧ i = .int .i64 j ∧ es.take j = ks.take j ∧ Below w.heap.size w wr) (fun i _ => es.length - (intOf i).toNat)
    case atStart => exact ⟨0, Nat.zero_le _, rfl, rfl, Below.refl _ _⟩
    case round =>
      obtain ⟨j, hj, rfl, htk, hbel⟩ := hrel
      have HT := Lib.hid htk
      have HBE := Lib.hid hbel
      clear htk hbel
      by_cases hlt : j < es.length
      · have hkt : j < ks.length := by have := HL.out; omega
        obtain ⟨b1, o1, x1, A1, c1, hf1, hB1, d0, d1, hbs1⟩ := els_cells (HA.out.below HBE.out) (List.getElem?_eq_getElem hlt)
        obtain ⟨b2, o2, x2, A2, c2, hf2, hB2, e0, e1, hbs2⟩ := els_cells (HB.out.below HBE.out) (List.getElem?_eq_getElem hkt)
        injection hf1 with hf1 _ hf3
        subst hf1 hf3
        injection hf2 with hf2 _ hf3
        subst hf2 hf3
        have HS1 := Lib.hid (hbs1.more HBE.out.size)
        have HS2 := Lib.hid (hbs2.more HBE.out.size)
        have HT2 := Lib.hid (show es[j] = ks[j] → es.take (j + 1) = ks.take (j + 1) from take_eq_of HT.out hlt hkt)
        have HN := Lib.hid (show es[j] ≠ ks[j] → es ≠ ks from fun h h2 => h (by simp [h2]))
        have hz1 : b1 < wr.heap.size := by have := HBE.out.size; omega
        have hz2 : b2 < wr.heap.size := by have := HBE.out.size; omega
        generalize es[j] = x at *
        generalize ks[j] = y at *
        obtain ⟨xk, xl⟩ := x
        obtain ⟨yk, yl⟩ := y
        dsimp only at d0 d1 e0 e1
        clear hbs1 hbs2 HT
        by_cases hxy : xk = yk
        · subst hxy
          by_cases hll : xl = yl
          · subst hll
            have C := Lib.hid (show ∀ n, Calls Try.prog 13 #[.slice A1 xl.length c1, .slice A2 xl.length c2] (wr.drewN n) fun e w'' => e = .returned (.bool true) ∧ ∃ m, w'' = wr.drewN m from fun n => by
              have := quiet_at (same_any _ _ xl xl _ (bs_drew HS1.out n) (bs_drew HS2.out n))
              rwa [decide_eq_true rfl] at this)
            clear HN
            go_wp2_with fail
            go_quiet ((go_at_call 13; exact C.out _))
            go_wp2_with fail
            go_roundw
            case rel => exact ⟨j + 1, by omega, by rw [IntWalk.wrap64_in ((j : Int) + 1) (by have := HLE.out; omega)]; go_num, HT2.out trivial, (below_drewN HBE.out _)⟩
            case measure => rw [IntWalk.wrap64_in ((j : Int) + 1) (by have := HLE.out; omega)]; simp [intOf]; omega
          · have C := Lib.hid (show ∀ n, Calls Try.prog 13 #[.slice A1 xl.length c1, .slice A2 yl.length c2] (wr.drewN n) fun e w'' => e = .returned (.bool false) ∧ ∃ m, w'' = wr.drewN m from fun n => by
              have := quiet_at (same_any _ _ xl yl _ (bs_drew HS1.out n) (bs_drew HS2.out n))
              rwa [decide_eq_false hll] at this)
            have HNE := Lib.hid (HN.out (by simp [hll]))
            clear HN HT2 hll
            go_wp2_with fail
            go_quiet ((go_at_call 13; exact C.out _))
            go_wp2_with fail
            go_ret
            exact ⟨ret_bool (by rw [decide_eq_false HNE.out]), (below_drewN HBE.out _)⟩
        · have hne : (xk == yk) = false := by simpa using hxy
          have hne2 : decide (xk = yk) = false := by simpa using hxy
          have hne3 : (xk != yk) = true := by simpa using hxy
          have HNE := Lib.hid (HN.out (by simp [hxy]))
          clear HN HT2
          go_wp2_with fail
          go_quiet (fail)
          go_wp2_with fail
          go_ret
          exact ⟨ret_bool (by rw [decide_eq_false HNE.out]), (below_drewN HBE.out _)⟩
      · have hfull := eq_of_take HT.out (by omega) (by have := HL.out; omega)
        have HF := Lib.hid hfull
        clear hfull
        go_wp2_with fail
        go_ret
        exact ⟨ret_bool (by rw [decide_eq_true HF.out]), HBE.out⟩
  · have hne : ((es.length : Int) == (ks.length : Int)) = false := by simp; omega
    have HNE := Lib.hid (show es ≠ ks from fun h => hl (by rw [h]))
    clear hl
    go_enter Try.func17, Try.ntmps17
    go_wp2_with fail
    go_ret
    exact ⟨ret_bool (by rw [decide_eq_false HNE.out]), Below.refl _ _⟩
end Go.Proofs.Ytncenlmfhnljgaa
