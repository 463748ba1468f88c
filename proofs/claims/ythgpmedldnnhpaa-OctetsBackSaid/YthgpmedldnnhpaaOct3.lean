/- Walks of package octets: Take. -/
import Derived.Test.YthgpmedldnnhpaaOct2
import Derived.Test.YthgpmedldnnhpaaOctPlain2
import Derived.Test.YthgpmedldnnhpaaMem2
namespace Go.Proofs.Ythgpmedldnnhpaa
open Go.RowKit

/-- What Take leaves: the numbers and the rest, each in a row of its own, or the error. -/
def TakePost (w : World) (l : List UInt8) (sizes : List Int) (e : Ending) (w' : World) : Prop :=
  Below w.heap.size w w' ∧
    (takeE l sizes = 0 → ∃ v u, e = .returned (.tuple #[v, u, .int .i64 0]) ∧ w'.ownsRow w.heap.size 45 1 v sizes.length (nums (takeV l sizes sizes.length)) ∧
      w'.ownsRow w.heap.size 5 1 u (l.drop (offs sizes sizes.length)).length (bys (l.drop (offs sizes sizes.length))) ∧ ∀ g, v.ownBlock = some g → u.ownBlock ≠ some g) ∧
    (takeE l sizes ≠ 0 → e = .returned (.tuple #[.slice none 0 0, .slice none 0 0, .int .i64 (takeE l sizes)]))

set_option maxRecDepth 100000 in
set_option maxHeartbeats 1000000 in
theorem take_any (l : List UInt8) (sizes : List Int) (A : Option Addr) (c : Nat) (A' : Option Addr) (c' : Nat) (w : World) (hb : BS w w.heap.size (.slice A l.length c) l) (hs : Sl w w.heap.size 1 (.slice A' sizes.length c') sizes.length (ints sizes))
    (hl : l.length ≤ 211106232532992) (hn : sizes.length ≤ 17592186044416) :
    Calls Try.prog 13 #[.slice A l.length c, .slice A' sizes.length c'] w (TakePost w l sizes) := by
  have HB0 := Lib.hid hb
  have HS := Lib.hid hs
  clear hb hs
  go_enter Try.func13, Try.ntmps13
  go_wp2_with fail
  go_loop [7, 17] (fun v i => ∃ (k : Nat), k ≤ sizes.length ∧ i = .int .i64 k ∧ v = .int .i64 (offs sizes k) ∧ (sizes.take k).all szok = true ∧ offs sizes k ≤ 8 * k) (fun _ i => sizes.length - (intOf i).toNat)
  case atStart => exact ⟨0, Nat.zero_le _, rfl, by simp [offs_zero], by simp, by simp [offs_zero]⟩
  case round =>
    obtain ⟨k, hk, rfl, rfl, hall, hoff⟩ := hrel
    have HA := Lib.hid hall
    clear hall
    by_cases hlt : k < sizes.length
    · obtain ⟨b, off, rfl, hbB, hcell⟩ := HS.out.cells (ints_at' hlt)
      have hc0 := hcell _ _ (ints_at' hlt)
      clear hcell
      generalize hx : sizes[k] = s at *
      have HX := Lib.hid hx
      clear hx
      go_wp2_with fail
      by_cases hsz : s < 1 ∨ 8 < s
      · refine (sized_no s _ hsz).mono ?_
        rintro e w1 ⟨rfl, rfl⟩
        go_wp2_with fail
        refine bodyPost_ret (v := .tuple #[.slice none 0 0, .slice none 0 0, .int .i64 5]) (by simp [results, Try.results13, go_sem]) rfl ?_
        have he : takeE l sizes = 5 := by
          unfold takeE
          rw [if_neg]
          intro h
          have h1 := List.all_eq_true.1 h sizes[k] (List.getElem_mem _)
          rw [HX.out] at h1
          unfold szok at h1
          have := of_decide_eq_true h1
          omega
        exact ⟨Below.refl _ _, fun h => absurd (he.symm.trans h) (by decide), fun _ => by rw [he]⟩
      · obtain ⟨m, rfl⟩ := Int.eq_ofNat_of_zero_le (show 0 ≤ s by omega)
        refine (sized_yes m _ (by omega) (by omega)).mono ?_
        rintro e w1 ⟨rfl, rfl⟩
        have hoff' : offs sizes (k + 1) = offs sizes k + m := by rw [offs_succ hlt, HX.out]; rfl
        have HO := Lib.hid hoff'
        clear hoff'
        go_wp2_with fail
        go_round
        case rel => exact ⟨k + 1, by omega, by go_num, by rw [HO.out]; go_num, by
          rw [List.take_succ_eq_append_getElem hlt, List.all_append, HA.out, HX.out]
          simp [szok]; omega, by rw [HO.out]; omega⟩
        case measure => simp [intOf]; omega
    · have hall : sizes.all szok = true := by have := HA.out; rwa [List.take_of_length_le (by omega)] at this
      obtain rfl : k = sizes.length := by omega
      have HA' := Lib.hid hall
      clear hall
      by_cases hshort : l.length < offs sizes sizes.length
      · have he : takeE l sizes = 3 := by unfold takeE; rw [if_pos HA'.out, if_pos hshort]
        have HE := Lib.hid he
        clear he
        go_wp2_with fail
        refine bodyPost_ret (v := .tuple #[.slice none 0 0, .slice none 0 0, .int .i64 3]) (by simp [results, Try.results13, go_sem]) rfl ?_
        exact ⟨Below.refl _ _, fun h => absurd (HE.out.symm.trans h) (by decide), fun _ => by rw [HE.out]⟩
      · have he : takeE l sizes = 0 := by unfold takeE; rw [if_pos HA'.out, if_neg hshort]
        have HE := Lib.hid he
        clear he
        go_wp2_with fail
        go_loopw [0, 10, 34] (fun v0 v10 i wr => ∃ (k : Nat) (A2 : Option Addr) (c2 : Nat), k ≤ sizes.length ∧ i = .int .i64 k ∧ v0 = .slice A2 (l.drop (offs sizes k)).length c2 ∧ BS w w.heap.size (.slice A2 (l.drop (offs sizes k)).length c2) (l.drop (offs sizes k)) ∧
          wr.ownsRow w.heap.size 45 1 v10 k (nums (takeV l sizes k)) ∧ Below w.heap.size w wr) (fun _ _ i _ => sizes.length - (intOf i).toNat)
        case atStart => exact ⟨0, A, c, Nat.zero_le _, rfl, by simp [offs_zero], by simpa [offs_zero] using HB0.out, by simpa [takeV, nums] using World.ownsRow_nil w w.heap.size 45 1, Below.refl _ _⟩
        case round =>
          obtain ⟨k, A2, c2, hk, rfl, rfl, hb2, hown, hbel⟩ := hrel
          obtain ⟨wo, rfl⟩ : ∃ wo : World, wo = wr := ⟨_, rfl⟩
          have HB2 := Lib.hid hb2
          have HO := Lib.hid hown
          have HB := Lib.hid hbel
          clear hb2 hown hbel
          by_cases hlt : k < sizes.length
          · obtain ⟨b, off, rfl, hbB, hcell⟩ := (HS.out.below HB.out).cells (ints_at' hlt)
            have hc0 := hcell _ _ (ints_at' hlt)
            clear hcell
            have hz := List.all_eq_true.1 HA'.out sizes[k] (List.getElem_mem _)
            unfold szok at hz
            have hz := of_decide_eq_true hz
            have hoff' := offs_succ hlt
            have hmono := offs_mono sizes (j := k + 1) (k := sizes.length) (by omega)
            have hgd : sizes.getD k 0 = sizes[k] := by simp [List.getD, hlt]
            generalize hx : sizes[k] = s at *
            obtain ⟨m, rfl⟩ := Int.eq_ofNat_of_zero_le (show 0 ≤ s by omega)
            simp only [Int.toNat_natCast] at hoff'
            have h1 : 1 ≤ m := by omega
            have h8 : m ≤ 8 := by omega
            have hlen : m ≤ (l.drop (offs sizes k)).length := by rw [List.length_drop]; omega
            have hq : (l.drop (offs sizes k)).length ≤ 211106232532992 := by rw [List.length_drop]; omega
            have HOF := Lib.hid hoff'
            have HGD := Lib.hid hgd
            clear hoff' hgd hx hz hmono
            generalize hd : l.drop (offs sizes k) = d at *
            have HD := Lib.hid hd
            clear hd
            obtain ⟨b2, off2, rfl, hb2B, hcell2⟩ := (HB2.out.below HB.out).cells (bys_at (show 0 < d.length by omega))
            have HC2 := Lib.hid hcell2
            clear hcell2
            go_wp2_with fail
            go_loop [13, 39] (fun x j => ∃ jj : Nat, jj ≤ m ∧ j = .int .i64 jj ∧ x = .int .u64 (leVal (d.take jj) : Nat)) (fun _ j => m - (intOf j).toNat)
            case atStart => exact ⟨0, Nat.zero_le _, rfl, by simp [leVal]⟩
            case round =>
              obtain ⟨jj, hjj, rfl, rfl⟩ := hrel
              by_cases hjlt : jj < m
              · have hcj := HC2.out jj _ (bys_at (show jj < d.length by omega))
                have hj8 : (8 * (jj : Int)).toNat = 8 * jj := by omega
                generalize hy : d[jj] = y at *
                have HY := Lib.hid hy
                clear hy
                go_wp2_with fail
                go_round
                case rel => exact ⟨jj + 1, by omega, by go_num, by rw [← HY.out]; exact step_take (by omega) (by omega)⟩
                case measure => simp [intOf]; omega
              · obtain rfl : jj = m := by omega
                go_wp2_with (first
                  | (at_builtin
                     refine app_sl _ elN rfl (.tmp 53) (.tmp 55) rfl rfl (HO.out.alloc _) rfl (Sl.lit _ _ _ 1 rfl (by simp [maxLen])) ?_ ?_ ?_ ?_
                     (case refine_1 => intro u hu; simp at hu; subst hu; rfl)
                     (case refine_2 => omega)
                     (case refine_3 => exact Nat.le_trans HB.out.size (by simp))
                     intro v1 w1 hown1 hg1 hnil1 hat1))
                have hb1 : Below w.heap.size w w1 := below_app (HB.out.alloc HB.out.size _) (HO.out.alloc _) hg1 (Nat.le_refl _) (Nat.le_trans HB.out.size (by simp))
                have K1 := Lib.hid hown1
                have K5 := Lib.hid hb1
                clear hown1 hg1 hnil1 hat1 hb1 hc0
                go_wp2_with fail
                go_roundw
                case rel =>
                  have hcut := HB2.out.cut (k := jj) hlen
                  have hdd : d.drop jj = l.drop (offs sizes (k + 1)) := by rw [HOF.out, ← HD.out, List.drop_drop]
                  have hv : takeV l sizes (k + 1) = takeV l sizes k ++ [leVal (d.take jj)] := by rw [takeV_succ, HD.out, HGD.out]; rfl
                  rw [hdd] at hcut
                  have hll : d.length - jj = (l.drop (offs sizes (k + 1))).length := by rw [← hdd, List.length_drop]
                  rw [hll] at hcut ⊢
                  exact ⟨k + 1, _, _, by omega, by go_num, rfl, hcut, by rw [hv, nums_append]; exact K1.out, K5.out⟩
                case measure => simp [intOf]; omega
          · obtain rfl : k = sizes.length := by omega
            have hdl : (l.drop (offs sizes sizes.length)).length ≤ 211106232532992 := by rw [List.length_drop]; omega
            generalize hd : l.drop (offs sizes sizes.length) = d at *
            have HD := Lib.hid hd
            have HDL := Lib.hid hdl
            clear hd hdl
            go_wp2_with fail
            refine (join_any [_] [d] _ _ _ (Sl.one _ _ _) ⟨rfl, ?_⟩ ?_ ?_).mono ?_
            · intro i v l' h1 h2
              match i, h1, h2 with
              | 0, h1, h2 =>
                simp only [List.getElem?_cons_zero, Option.some.injEq] at h1 h2
                subst h1 h2
                exact ((HB2.out.below HB.out).more HB.out.size).on (al1 _ _)
            · simpa using HDL.out
            · simp
            · rintro e w1 ⟨hb1, u, rfl, hu⟩
              have hs1 := hb1.size
              have K1 := Lib.hid hu
              have K2 := Lib.hid hb1
              have K3 := Lib.hid hs1
              clear hu hb1 hs1
              go_wp2_with fail
              refine bodyPost_ret (v := .tuple #[u10, u, .int .i64 0]) (by simp [results, Try.results13, go_sem]) rfl ?_
              refine ⟨HB.out.trans (one K2.out |>.mono HB.out.size), fun _ => ⟨_, _, rfl, ?_, ?_, ?_⟩, fun h => absurd HE.out h⟩
              · exact own_on (own_on HO.out (al1 _ _)) K2.out
              · rw [HD.out]
                have := own_base K1.out (Nat.le_trans HB.out.size (by simp))
                simpa using this
              · intro g h1 h2
                have h3 := (HO.out.lt g h1).2
                have h4 := (K1.out.lt g h2).1
                simp at h4
                omega

end Go.Proofs.Ythgpmedldnnhpaa
