/- Walks of the reference of adata: Build. No condition. -/
import Derived.Test.YtncenlmfhnljgaaAdP
namespace Go.Proofs.Ytncenlmfhnljgaa
open Go.RowKit

theorem le2 (x : Nat) : le 2 x = shB1 x := by
  simp [le, shB1, List.range_succ]
set_option maxRecDepth 100000 in
set_option maxHeartbeats 4000000 in
theorem rabuild_any (f : Int) (nm : ByteArray) (ws : List Nat) (v : Value) (w : World) (hw : WS w w.heap.size v ws) (hle : ws.length ≤ 1048576) (hn : nm.size ≤ 140737488351232) (h16 : ∀ n ∈ ws, n < 65536) :
    Calls Try.prog 26 #[.int .i64 f, .string nm, v] w (BuildPost w f nm.data.toList ws) := by
  have hsz : nm.data.toList.length = nm.size := Array.length_toList
  have HQ := Lib.hid (show ∀ (e : Ending) (w' : World), (Below w.heap.size w w' ∧ ∃ v, e = .returned (.tuple #[v, .int .i64 (bdE f nm.data.toList ws)]) ∧ BS w' w'.heap.size v (bdR f nm.data.toList ws)) → BuildPost w f nm.data.toList ws e w' from fun _ _ h => h)
  generalize BuildPost w f nm.data.toList ws = Q at *
  obtain ⟨A, c, rfl, _⟩ := id hw
  have HW := Lib.hid hw
  have HLE := Lib.hid hle
  have HN := Lib.hid hn
  have H16 := Lib.hid h16
  have HSZ := Lib.hid hsz
  clear hw hn h16 hsz
  by_cases hf0 : f < 0
  · have HB := Lib.hid (bdE_bad (Or.inl hf0) nm.data.toList ws)
    have hd : decide (f < 0) = true := decide_eq_true hf0
    clear hf0
    go_enter Try.func26, Try.ntmps26
    go_wp2_with fail
    exact HQ.out _ _ ⟨Below.refl _ _, _, by rw [HB.out.1]; rfl, by rw [HB.out.2]; exact .nil _ _⟩
  by_cases hf1 : 255 < f
  · have HB := Lib.hid (bdE_bad (Or.inr hf1) nm.data.toList ws)
    have hd : decide (f < 0) = false := decide_eq_false hf0
    have hd1 : decide (255 < f) = true := decide_eq_true hf1
    clear hf0 hf1
    go_enter Try.func26, Try.ntmps26
    go_wp2_with fail
    exact HQ.out _ _ ⟨Below.refl _ _, _, by rw [HB.out.1]; rfl, by rw [HB.out.2]; exact .nil _ _⟩
  have hfok : ¬ (f < 0 ∨ 255 < f) := by omega
  have hd : decide (f < 0) = false := decide_eq_false hf0
  have hd1 : decide (255 < f) = false := decide_eq_false hf1
  by_cases hn31 : 31 < nm.data.toList.length
  · have HB := Lib.hid (bdE_long hfok (nm := nm.data.toList) (ws := ws) (Or.inl hn31))
    have hd2 : decide ((31 : Int) < (nm.size : Int)) = true := decide_eq_true (by have := HSZ.out; omega)
    clear hf0 hf1 hfok hn31
    go_enter Try.func26, Try.ntmps26
    go_wp2_with fail
    exact HQ.out _ _ ⟨Below.refl _ _, _, by rw [HB.out.1]; rfl, by rw [HB.out.2]; exact .nil _ _⟩
  by_cases hw31 : 31 < ws.length
  · have HB := Lib.hid (bdE_long hfok (nm := nm.data.toList) (ws := ws) (Or.inr hw31))
    have hd2 : decide ((31 : Int) < (nm.size : Int)) = false := decide_eq_false (by have := HSZ.out; omega)
    have hd3 : decide ((31 : Int) < (ws.length : Int)) = true := decide_eq_true (by omega)
    clear hf0 hf1 hfok hn31 hw31
    go_enter Try.func26, Try.ntmps26
    go_wp2_with fail
    exact HQ.out _ _ ⟨Below.refl _ _, _, by rw [HB.out.1]; rfl, by rw [HB.out.2]; exact .nil _ _⟩
  have hd2 : decide ((31 : Int) < (nm.size : Int)) = false := decide_eq_false (by have := HSZ.out; omega)
  have hd3 : decide ((31 : Int) < (ws.length : Int)) = false := decide_eq_false (by omega)
  clear hn31 hw31
  have HB := Lib.hid (bdE_ok hfok nm.data.toList ws)
  have HL3 := Lib.hid (bdL_len f nm.data.toList ws)
  have hwf : IntKind.u8.wrap f = f := by rw [IntKind.wrap_u8]; omega
  have HF := Lib.hid hfok
  clear hfok
  go_enter Try.func26, Try.ntmps26
  go_upto_if 32 with fail
  have HO := Lib.hid (bdF_new w f HF.out)
  have hA : Below w.heap.size w ((w.alloc (.cells #[.int .u8 f] 5)).alloc (.cells #[.int .i64 1, .slice (some ⟨w.heap.size, 0, none⟩) 1 1] 49)) := al2 _ _ _
  generalize (w.alloc (.cells #[.int .u8 f] 5)).alloc (.cells #[.int .i64 1, .slice (some ⟨w.heap.size, 0, none⟩) 1 1] 49) = W at *
  have HA := Lib.hid hA
  have zw := hA.size
  clear hA
  go_cut [8] (fun l wx => ∃ (A' : Option Addr) (n' c' : Nat), l = .slice A' n' c' ∧ Below w.heap.size w wx ∧ OwnEls wx w.heap.size l ([bdF f] ++ bdS ws))
  case first =>
    by_cases hw0 : ws.length = 0
    · have hd2 : decide (0 < ws.length) = false := decide_eq_false (by omega)
      rw [hd2]
      have HS := Lib.hid (show bdS ws = [] from if_pos hw0)
      clear hw0
      go_wp2_with fail
      go_meet
      exact ⟨_, _, _, rfl, HA.out, by rw [HS.out, List.append_nil]; exact HO.out⟩
    · have hd2 : decide (0 < ws.length) = true := decide_eq_true (by omega)
      rw [hd2]
      have HS := Lib.hid (show bdS ws = [(3, shB ws)] from if_neg hw0)
      clear hw0
      go_wp2_with fail
      go_loopw [9, 10] (fun x i wr => ∃ j : Nat, j ≤ ws.length ∧ i = .int .i64 j ∧ OB wr W.heap.size x (shB (ws.take j)) ∧ Below W.heap.size W wr) (fun _ i _ => ws.length - (intOf i).toNat)
      case atStart => exact ⟨0, Nat.zero_le _, rfl, OB.nil W, al1 _ _⟩
      case round =>
        obtain ⟨j, hj, rfl, hob, hbel⟩ := hrel
        obtain ⟨A9, c9, rfl⟩ := own_form hob
        have HOB := Lib.hid hob
        have HBE := Lib.hid hbel
        have zr := hbel.size
        clear hob
        by_cases hlt : j < ws.length
        · obtain ⟨b, o, rfl, hB, e1⟩ := (HW.out.below (HA.out.trans (hbel.mono zw))).cells (shs_at hlt)
          have d1 := e1 _ _ (shs_at hlt)
          have HT := Lib.hid (shB_take (List.getElem?_eq_getElem hlt))
          have HX := Lib.hid (H16.out _ (List.getElem_mem hlt))
          have HTL := Lib.hid (show (shB (ws.take j)).length ≤ 2097152 by rw [shB_len, List.length_take]; have := HLE.out; omega)
          generalize ws[j] = x at *
          have hx := HX.out
          have CN := Lib.hid (show Calls Try.prog 30 #[.int .i64 2, .int .u64 (x : Int)] wr (BytesPost wr (shB1 x)) by
            have h := num_any 2 x wr (by omega) (by omega)
            rwa [le2] at h)
          clear e1 hbel
          go_wp2_with fail
          refine CN.out.mono ?_
          rintro e w5 ⟨hb5, u5, rfl, hown5⟩
          have HO5 := Lib.hid hown5
          have HB5 := Lib.hid hb5
          clear hown5 hb5 CN
          go_wp2_with (first
            | (at_builtin
               refine app_by _ elB rfl (.tmp 40) (.tmp 46) rfl rfl (own_on HOB.out HB5.out) rfl (Sl.of_own HO5.out) ?_ ?_ ?_
               (case refine_1 => have := HTL.out; simp [shB1]; omega)
               (case refine_2 => exact Nat.le_trans zr HB5.out.size)
               intro v1 w1 hown1 hb1))
          go_roundw
          case rel => exact ⟨j + 1, by omega, by go_num, by rw [HT.out]; exact hown1, (HBE.out.trans (HB5.out.mono zr)).trans hb1⟩
          case measure => simp [intOf]; omega
        · have hje : j = ws.length := by omega
          subst hje
          rw [List.take_length] at *
          have HSL := Lib.hid (shB_len ws)
          obtain ⟨vs, k1, k2, k3⟩ := HO.out.on hbel
          have HK1 := Lib.hid k1
          have HK2 := Lib.hid k2
          have HK3 := Lib.hid k3
          have HBW := Lib.hid (HA.out.trans (hbel.mono zw))
          have zx : w.heap.size ≤ wr.heap.size := Nat.le_trans zw zr
          have HSB := Lib.hid (own_base HOB.out zw)
          clear k1 k2 k3 hbel
          go_wp2_with (first
            | (at_builtin
               refine app_sl _ elE rfl (.tmp 48) (.tmp 51) rfl rfl (HK2.out.alloc _) rfl (Sl.lit _ _ _ 1 rfl (by simp [maxLen])) ?_ ?_ ?_ ?_
               (case refine_1 => intro u hu; simp at hu; rcases hu with rfl | rfl <;> rfl)
               (case refine_2 => simp)
               (case refine_3 => exact Nat.le_trans zx (by simp))
               intro v3 w3 hown3 hg3 _ _
               have HB3 := Lib.hid (show Below w.heap.size w w3 from below_app (HBW.out.alloc zx _) (HK2.out.alloc _) hg3 (Nat.le_refl _) (Nat.le_trans zx (by simp)))
               obtain ⟨A3, c3, rfl⟩ := own_form hown3
               have HO3 := Lib.hid (show OwnEls w3 w.heap.size (.slice A3 (1 + 1) c3) ([bdF f] ++ [(3, shB ws)]) from
                 ownM_snoc (vs := vs) (u := .slice A9 (shB ws).length c9) HK1.out rfl (by decide) (HK2.out.alloc _) (fun i p u hp hu => (HK3.out i p u hp hu).alloc _) (HSB.out.alloc _) hown3 hg3)
               clear hown3 hg3))
          go_meet
          exact ⟨_, _, _, rfl, HB3.out, by rw [HS.out]; exact HO3.out⟩
  case rest =>
    obtain ⟨A8, n8, c8, rfl, hbel, ho⟩ := hcut
    have HBE := Lib.hid hbel
    have HOC := Lib.hid ho
    have zc := hbel.size
    have hl8 : n8 = ([bdF f] ++ bdS ws).length := by
      obtain ⟨A1, c1, h1⟩ := ho.form
      injection h1
    have HN8 := Lib.hid hl8
    have hn8 : n8 ≤ 2 := by rw [hl8]; unfold bdS; split <;> simp
    have HBL := Lib.hid (show bdL f nm.data.toList ws = ([bdF f] ++ bdS ws) ++ bdN nm.data.toList from rfl)
    clear hbel ho hl8
    by_cases hn0 : nm.data.toList = []
    · have hq : (!nm.toList.isEmpty) = false := by rw [ByteArray.toList_eq, hn0]; rfl
      have HES := Lib.hid (show bdL f nm.data.toList ws = [bdF f] ++ bdS ws by rw [HBL.out, show bdN nm.data.toList = [] by unfold bdN; rw [hn0]; rfl, List.append_nil])
      clear hn0
      go_wp2_with fail
      refine (raencode_any _ ([bdF f] ++ bdS ws) wc HOC.out.reads (by have := HN8.out; omega)).mono ?_
      rintro e w5 ⟨hb5, u5, rfl, hu5⟩
      rw [← HES.out] at hu5 ⊢
      obtain ⟨A5, c5, rfl, _⟩ := id hu5
      have HU5 := Lib.hid hu5
      have HB5 := Lib.hid hb5
      clear hu5 hb5
      go_wp2_with fail
      exact HQ.out _ _ ⟨bthen HBE.out HB5.out, _, by rw [HB.out.1]; rfl, by rw [HB.out.2]; exact HU5.out⟩
    · have hq : (!nm.toList.isEmpty) = true := by
        rw [ByteArray.toList_eq]
        cases h : nm.data.toList with
        | nil => exact absurd h hn0
        | cons x r => rfl
      have HES := Lib.hid (show bdL f nm.data.toList ws = ([bdF f] ++ bdS ws) ++ [(9, nm.data.toList)] by
        rw [HBL.out, show bdN nm.data.toList = [(9, nm.data.toList)] by unfold bdN; rw [if_neg (by intro h; exact hn0 (List.eq_nil_of_length_eq_zero h))]])
      clear hn0
      obtain ⟨W1, k, hcv, hb1, hz1, hbs⟩ := conv_name wc nm (by have := HN.out; simp only [maxLen]; omega)
      obtain ⟨vs, k1, k2, k3⟩ := HOC.out.on hb1
      have HK1 := Lib.hid k1
      have HK2 := Lib.hid k2
      have HK3 := Lib.hid k3
      have HB1 := Lib.hid (bthen HBE.out hb1)
      have HBS := Lib.hid hbs
      have zw1 : w.heap.size ≤ W1.heap.size := by omega
      have HZ1 := Lib.hid hz1
      have HOCL := Lib.hid (show ∀ g, (Value.slice A8 n8 c8).ownBlock = some g → g < wc.heap.size from fun g hg => by
        obtain ⟨_, _, h2, _⟩ := HOC.out
        exact (h2.lt g hg).2)
      clear k1 k2 k3 hb1 hbs hz1
      have hk2 := HK2.out
      rw [← HN8.out] at hk2
      have HK4 := Lib.hid hk2
      clear hk2
      go_wp2_with (first
        | (at_builtin
           refine app_sl _ elE rfl (.tmp 55) (.tmp 59) rfl rfl (HK4.out.alloc _) rfl (Sl.lit _ _ _ 1 rfl (by simp [maxLen])) ?_ ?_ ?_ ?_
           (case refine_1 => intro u hu; simp at hu; rcases hu with rfl | rfl <;> rfl)
           (case refine_2 => omega)
           (case refine_3 => exact Nat.le_trans zw1 (by simp))
           intro v3 w3 hown3 hg3 _ _
           have HB3 := Lib.hid (show Below w.heap.size w w3 from below_app (HB1.out.alloc zw1 _) (HK2.out.alloc _) hg3 (Nat.le_refl _) (Nat.le_trans zw1 (by simp)))
           have hne : (some wc.heap.size : Option Nat) ≠ (Value.slice A8 n8 c8).ownBlock := fun h => by have := (HOCL.out wc.heap.size h.symm); omega
           have hlt1 : wc.heap.size < W1.heap.size := by have := HZ1.out; omega
           have hblk := (hg3.block wc.heap.size (by simp; omega) hne).trans ((al1 W1 _).block wc.heap.size hlt1)
           have hlt3 : wc.heap.size < w3.heap.size := Nat.lt_of_lt_of_le (Nat.lt_of_lt_of_le hlt1 (by simp)) hg3.size
           have HV3 := Lib.hid (show ElsV w3 w3.heap.size v3 (([bdF f] ++ bdS ws) ++ [(9, nm.data.toList)]) from
             manyV_snoc (vs := vs) (u := .slice (some ⟨wc.heap.size, 0, none⟩) nm.size k) HK1.out rfl (by decide) (HK2.out.alloc _) (fun i p u hp hu => (HK3.out i p u hp hu).alloc _) (by rw [← HN8.out]; exact hown3) hg3 (HBS.out w3 hblk hlt3))
           obtain ⟨A3, c3, rfl⟩ := own_form hown3
           clear hown3 hg3 hne hblk hlt1 hlt3))
      refine (raencode_any _ (([bdF f] ++ bdS ws) ++ [(9, nm.data.toList)]) w3 HV3.out (by have := HN8.out; simp at *; omega)).mono ?_
      rintro e w5 ⟨hb5, u5, rfl, hu5⟩
      rw [← HES.out] at hu5 ⊢
      obtain ⟨A5, c5, rfl, _⟩ := id hu5
      have HU5 := Lib.hid hu5
      have HB5 := Lib.hid hb5
      clear hu5 hb5
      go_wp2_with fail
      exact HQ.out _ _ ⟨bthen HB3.out HB5.out, _, by rw [HB.out.1]; rfl, by rw [HB.out.2]; exact HU5.out⟩
end Go.Proofs.Ytncenlmfhnljgaa
