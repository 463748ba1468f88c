/- Walks of the reference of octets: Take. -/
import Derived.Test.YthgpmedldnnhpaaRef2
import Derived.Test.YthgpmedldnnhpaaMem2
namespace Go.Proofs.Ythgpmedldnnhpaa
open Go.RowKit

theorem BS.pre {w : World} {B c b off : Nat} {l : List UInt8} (h : BS w B (.slice (some ⟨b, off, none⟩) l.length c) l) {k : Nat} (hk : k ≤ l.length) : BS w B (.slice (some ⟨b, off, none⟩) (l.take k).length c) (l.take k) := by
  obtain ⟨hnc, hcm⟩ := Sl.cap h
  refine ⟨_, c, rfl, by rw [List.length_take]; omega, hcm, by rw [bys_length]; omega, ?_⟩
  obtain ⟨A', c', e, h1, h2, h3, h4⟩ := h
  injection e with e1 e2 e3
  subst e1
  rcases h4 with h4 | ⟨b', off', e, hb, hc⟩
  · exact .inl (by rw [bys_take, h4, List.take_nil])
  · injection e with e
    injection e with e1 e2
    subst e1 e2
    refine .inr ⟨b, off, rfl, hb, fun j u hu => hc j u ?_⟩
    rw [bys_take, List.getElem?_take] at hu
    split at hu
    · exact hu
    · cases hu

theorem value_pre (d : List UInt8) (m b off c : Nat) (w : World) (B : Nat) (h : BS w B (.slice (some ⟨b, off, none⟩) d.length c) d) (hm : m ≤ d.length) (h8 : m ≤ 8) :
    Calls Try.prog 27 #[.slice (some ⟨b, off, none⟩) m c] w fun e w' => e = .returned (.int .u64 ((leVal (d.take m) : Nat) : Int)) ∧ w = w' := by
  have h1 := h.pre hm
  have e : (d.take m).length = m := by rw [List.length_take]; omega
  have h2 := value_any (d.take m) (some ⟨b, off, none⟩) c w B h1 (by omega)
  rw [e] at h2
  exact h2

set_option maxRecDepth 100000 in
set_option maxHeartbeats 1000000 in
theorem reftake_any (l : List UInt8) (sizes : List Int) (A : Option Addr) (c : Nat) (A' : Option Addr) (c' : Nat) (w : World) (hb : BS w w.heap.size (.slice A l.length c) l) (hs : Sl w w.heap.size 1 (.slice A' sizes.length c') sizes.length (ints sizes))
    (hl : l.length ≤ 140737488355328) (hn : sizes.length ≤ 17592186044416) :
    Calls Try.prog 15 #[.slice A l.length c, .slice A' sizes.length c'] w (TakePost w l sizes) := by
  have HB0 := Lib.hid hb
  have HS := Lib.hid hs
  clear hb hs
  go_enter Try.func15, Try.ntmps15
  go_wp2_with fail
  go_loop [7, 8] (fun v i => ∃ (k : Nat), k ≤ sizes.length ∧ i = .int .i64 k ∧ v = .int .i64 (offs sizes k) ∧ (sizes.take k).all szok = true ∧ offs sizes k ≤ 8 * k) (fun _ i => sizes.length - (intOf i).toNat)
  case atStart => exact ⟨0, Nat.zero_le _, rfl, by simp [offs_zero], by simp, by simp [offs_zero]⟩
  case round =>
    obtain ⟨k, hk, rfl, rfl, hall, hoff⟩ := hrel
    have HA := Lib.hid hall
    clear hall
    by_cases hlt : k < sizes.length
    · obtain ⟨b, off, rfl, hbB, hcell⟩ := HS.out.cells (ints_at' hlt)
      have hc0 := hcell _ _ (ints_at' hlt)
      clear hcell
      generalize hx : sizes[k] = s at *
      have HX := Lib.hid hx
      clear hx
      by_cases hsz : s < 1 ∨ 8 < s
      · have he : takeE l sizes = 5 := by
          unfold takeE
          rw [if_neg]
          intro h
          have h1 := List.all_eq_true.1 h sizes[k] (List.getElem_mem _)
          rw [HX.out] at h1
          unfold szok at h1
          have := of_decide_eq_true h1
          omega
        have HE := Lib.hid he
        clear he
        rcases hsz with hsz | hsz
        · go_wp2_with fail
          refine bodyPost_ret (v := .tuple #[.slice none 0 0, .slice none 0 0, .int .i64 5]) (by simp [results, Try.results15, go_sem]) rfl ?_
          exact ⟨Below.refl _ _, fun h => absurd (HE.out.symm.trans h) (by decide), fun _ => by rw [HE.out]⟩
        · have hd1 : decide (s < 1) = false := by simp; omega
          go_wp2_with fail
          refine bodyPost_ret (v := .tuple #[.slice none 0 0, .slice none 0 0, .int .i64 5]) (by simp [results, Try.results15, go_sem]) rfl ?_
          exact ⟨Below.refl _ _, fun h => absurd (HE.out.symm.trans h) (by decide), fun _ => by rw [HE.out]⟩
      · obtain ⟨m, rfl⟩ := Int.eq_ofNat_of_zero_le (show 0 ≤ s by omega)
        have hoff' : offs sizes (k + 1) = offs sizes k + m := by rw [offs_succ hlt, HX.out]; rfl
        have HO := Lib.hid hoff'
        have hd1 : decide ((m : Int) < 1) = false := by simp; omega
        have hd2 : decide ((8 : Int) < m) = false := by simp; omega
        have hm8 : m ≤ 8 := by omega
        clear hoff'
        go_wp2_with fail
        go_round
        case rel => exact ⟨k + 1, by omega, by go_num, by rw [HO.out]; go_num, by
          rw [List.take_succ_eq_append_getElem hlt, List.all_append, HA.out, HX.out]
          simp [szok]; omega, by rw [HO.out]; omega⟩
        case measure => simp [intOf]; omega
    · have hall : sizes.all szok = true := by have := HA.out; rwa [List.take_of_length_le (by omega)] at this
      obtain rfl : k = sizes.length := by omega
      have HA' := Lib.hid hall
      clear hall
      by_cases hshort : l.length < offs sizes sizes.length
      · have he : takeE l sizes = 3 := by unfold takeE; rw [if_pos HA'.out, if_pos hshort]
        have HE := Lib.hid he
        clear he
        go_wp2_with fail
        refine bodyPost_ret (v := .tuple #[.slice none 0 0, .slice none 0 0, .int .i64 3]) (by simp [results, Try.results15, go_sem]) rfl ?_
        exact ⟨Below.refl _ _, fun h => absurd (HE.out.symm.trans h) (by decide), fun _ => by rw [HE.out]⟩
      · have he : takeE l sizes = 0 := by unfold takeE; rw [if_pos HA'.out, if_neg hshort]
        have HE := Lib.hid he
        clear he
        go_wp2_with fail
        go_loopw [0, 9, 10] (fun v0 v9 i wr => ∃ (k : Nat) (A2 : Option Addr) (c2 : Nat), k ≤ sizes.length ∧ i = .int .i64 k ∧ v0 = .slice A2 (l.drop (offs sizes k)).length c2 ∧ BS w w.heap.size (.slice A2 (l.drop (offs sizes k)).length c2) (l.drop (offs sizes k)) ∧
          wr.ownsRow w.heap.size 45 1 v9 k (nums (takeV l sizes k)) ∧ Below w.heap.size w wr) (fun _ _ i _ => sizes.length - (intOf i).toNat)
        case atStart => exact ⟨0, A, c, Nat.zero_le _, rfl, by simp [offs_zero], by simpa [offs_zero] using HB0.out, by simpa [takeV, nums] using World.ownsRow_lit (base := w.heap.size) (e := 45) (size := 1) w #[] 0 (Nat.le_refl _) (by simp [maxLen]) rfl, al1 _ _⟩
        case round =>
          obtain ⟨k, A2, c2, hk, rfl, rfl, hb2, hown, hbel⟩ := hrel
          obtain ⟨wo, rfl⟩ : ∃ wo : World, wo = wr := ⟨_, rfl⟩
          have HB2 := Lib.hid hb2
          have HO := Lib.hid hown
          have HB := Lib.hid hbel
          clear hb2 hown hbel
          by_cases hlt : k < sizes.length
          · obtain ⟨b, off, rfl, hbB, hcell⟩ := (HS.out.below HB.out).cells (ints_at' hlt)
            have hc0 := hcell _ _ (ints_at' hlt)
            clear hcell
            have hz := List.all_eq_true.1 HA'.out sizes[k] (List.getElem_mem _)
            unfold szok at hz
            have hz := of_decide_eq_true hz
            have hoff' := offs_succ hlt
            have hmono := offs_mono sizes (j := k + 1) (k := sizes.length) (by omega)
            have hgd : sizes.getD k 0 = sizes[k] := by simp [List.getD, hlt]
            generalize hx : sizes[k] = s at *
            obtain ⟨m, rfl⟩ := Int.eq_ofNat_of_zero_le (show 0 ≤ s by omega)
            simp only [Int.toNat_natCast] at hoff'
            have h1 : 1 ≤ m := by omega
            have h8 : m ≤ 8 := by omega
            have hlen : m ≤ (l.drop (offs sizes k)).length := by rw [List.length_drop]; omega
            have hq : (l.drop (offs sizes k)).length ≤ 140737488355328 := by rw [List.length_drop]; omega
            have HOF := Lib.hid hoff'
            have HGD := Lib.hid hgd
            have HIS := Lib.hid hx
            clear hoff' hgd hx hz hmono
            generalize hd : l.drop (offs sizes k) = d at *
            have HD := Lib.hid hd
            clear hd
            obtain ⟨b2, off2, rfl, hb2B, hcell2⟩ := (HB2.out.below HB.out).cells (bys_at (show 0 < d.length by omega))
            have hcap := (Sl.cap HB2.out).1
            clear hcell2
            go_wp2_with fail
            refine (value_pre d m b2 off2 c2 _ _ (HB2.out.below HB.out) hlen h8).mono ?_
            rintro e w1 ⟨rfl, rfl⟩
            generalize hvv : leVal (d.take m) = vv at *
            have HVV := Lib.hid hvv
            clear hvv
            go_wp2_with (first
              | (at_builtin
                 refine app_sl _ elN rfl (.tmp 46) (.tmp 54) rfl rfl (HO.out.alloc _) rfl (Sl.lit _ _ _ 1 rfl (by simp [maxLen])) ?_ ?_ ?_ ?_
                 (case refine_1 => intro u hu; simp at hu; subst hu; rfl)
                 (case refine_2 => omega)
                 (case refine_3 => exact Nat.le_trans HB.out.size (by simp))
                 intro v1 w1 hown1 hg1 hnil1 hat1
                 have hb1 : Below w.heap.size w w1 := below_app (HB.out.alloc HB.out.size _) (HO.out.alloc _) hg1 (Nat.le_refl _) (Nat.le_trans HB.out.size (by simp))
                 obtain ⟨b3, off3, e3, hb3B, hcell3⟩ := (HS.out.below hb1).cells (ints_at' hlt)
                 injection e3 with e3
                 injection e3 with e3 e4
                 subst e3 e4
                 have hc1 := hcell3 _ _ (ints_at' hlt)
                 rw [HIS.out] at hc1
                 have K1 := Lib.hid hown1
                 have K5 := Lib.hid hb1
                 clear hown1 hg1 hnil1 hat1 hb1 hcell3 hc0))
            go_roundw
            case rel =>
              have hcut := HB2.out.cut (k := m) hlen
              have hdd : d.drop m = l.drop (offs sizes (k + 1)) := by rw [HOF.out, ← HD.out, List.drop_drop]
              have hv : takeV l sizes (k + 1) = takeV l sizes k ++ [leVal (d.take m)] := by rw [takeV_succ, HD.out, HGD.out]; rfl
              rw [hdd] at hcut
              have hll : d.length - m = (l.drop (offs sizes (k + 1))).length := by rw [← hdd, List.length_drop]
              rw [hll] at hcut ⊢
              exact ⟨k + 1, _, _, by omega, by go_num, rfl, hcut, by rw [hv, nums_append, HVV.out]; exact K1.out, K5.out⟩
            case measure => simp [intOf]; omega
          · obtain rfl : k = sizes.length := by omega
            have hdl : (l.drop (offs sizes sizes.length)).length ≤ 140737488355328 := by rw [List.length_drop]; omega
            generalize hd : l.drop (offs sizes sizes.length) = d at *
            have HD := Lib.hid hd
            clear hd
            have hlit := World.ownsRow_lit (base := wo.heap.size) (e := 5) (size := 1) wo #[] 0 (Nat.le_refl _) (by simp [maxLen]) rfl
            have hsrc := (HB2.out.below HB.out).below ((Below.refl w.heap.size wo).alloc HB.out.size (.cells #[] 5))
            have HL := Lib.hid hlit
            have HSRC := Lib.hid hsrc
            clear hlit hsrc
            go_wp2_with (first
              | (at_builtin
                 refine app_sl _ elB rfl (.tmp 63) (.tmp 64) rfl rfl HL.out rfl HSRC.out ?_ ?_ ?_ ?_
                 (case refine_1 => exact bys_one _)
                 (case refine_2 => omega)
                 (case refine_3 => simp)
                 intro v1 w1 hown1 hg1 hnil1 hat1))
            have hb1 : Below wo.heap.size wo w1 := below_app ((Below.refl _ _).alloc (Nat.le_refl _) _) HL.out hg1 (Nat.le_refl _) (by simp)
            refine bodyPost_ret (v := .tuple #[u9, v1, .int .i64 0]) (by simp [results, Try.results15, go_sem]) rfl ?_
            refine ⟨HB.out.trans (hb1.mono HB.out.size), fun _ => ⟨_, _, rfl, own_on HO.out hb1, ?_, ?_⟩, fun h => absurd HE.out h⟩
            · rw [HD.out]
              have := own_base hown1 HB.out.size
              simpa using this
            · intro g h1 h2
              have h3 := (HO.out.lt g h1).2
              have h4 := (hown1.lt g h2).1
              omega
end Go.Proofs.Ythgpmedldnnhpaa
