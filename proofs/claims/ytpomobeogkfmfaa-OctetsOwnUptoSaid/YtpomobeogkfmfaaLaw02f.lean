/- The walk of the law OctetsOwn: it returns true. -/
import Derived.Test.YtpomobeogkfmfaaLaw02b
import Derived.OneCell
namespace Go.Proofs.Ytpomobeogkfmfaa
open Go.RowKit

theorem inc_u8 (x : UInt8) : Value.int .u8 (IntKind.u8.wrap ((x.toNat : Int) + 1)) = .int .u8 ((x + 1).toNat : Int) := by
  rw [IntKind.wrap_u8, UInt8.toNat_add]
  simp
theorem bys_set (l : List UInt8) (j : Nat) (x : UInt8) : (bys l).set j (.int .u8 (x.toNat : Int)) = bys (l.set j x) := by simp [bys, List.map_set]

set_option maxRecDepth 100000 in
set_option maxHeartbeats 1000000 in
theorem octetsOwn_walk (l m : List UInt8) (hl : l.length + m.length ≤ 1048576) (v u : Value) (w : World) (hv : BS w w.heap.size v l) (hu : BS w w.heap.size u m) :
    Calls Try.prog 8 #[v, u] w fun e w' => e = .returned (.bool true) ∧ Below w.heap.size w w' := by
  have HV := Lib.hid hv
  have HU := Lib.hid hu
  clear hv hu
  go_enter Try.func8, Try.ntmps8
  go_wp2_with fail
  refine (copied_v _ _ l HV.out (by omega)).mono ?_
  rintro e w1 ⟨hb1, v1, rfl, hv1⟩
  have HB1 := Lib.hid hb1
  have X1 := Lib.hid (BS.of_own rfl hv1)
  clear hb1 hv1
  go_wp2_with fail
  refine (copied_v _ _ m (HU.out.on HB1.out) (by omega)).mono ?_
  rintro e w2 ⟨hb2, v2, rfl, hv2⟩
  have HB2 := Lib.hid (bthen HB1.out hb2)
  have X2 := Lib.hid (X1.out.on hb2)
  have Y2 := Lib.hid (BS.of_own rfl hv2)
  clear hb2 hv2 HB1 X1
  obtain ⟨q, hq⟩ : ∃ q, q = l ++ m := ⟨_, rfl⟩
  have hql : q.length = l.length + m.length := by rw [hq, List.length_append]
  have HQ := Lib.hid hq
  clear hq
  obtain ⟨A1, c1, e1, _⟩ := id X2.out
  obtain ⟨A2, c2, e2, _⟩ := id Y2.out
  subst e1 e2
  go_wp2_with fail
  have HA := al1 w2 (.cells #[.slice A1 l.length c1, .slice A2 m.length c2] 23)
  refine (join_v _ _ [.slice A1 l.length c1, .slice A2 m.length c2] [l, m] (sl_lit _ _ _ _ _ _ _ rfl rfl (by simp) (by simp [maxLen])) (parts_cons (X2.out.on HA) (parts_cons (Y2.out.on HA) (parts_nil _ _))) (by simp; omega) (by simp)).mono ?_
  rintro e w3 ⟨hb3, v3, rfl, hv3⟩
  rw [show [l, m].flatten = q by simp [HQ.out]] at hv3
  have J3 := Lib.hid (own_base hv3 HA.size)
  have hA3 := bthen HA hb3
  have HC3 := Lib.hid hA3
  have X3 := Lib.hid (X2.out.on hA3)
  have Y3 := Lib.hid (Y2.out.on hA3)
  clear hb3 hv3 hA3 HA
  go_wp2_with fail
  have HA := al1 w3 (.cells #[.slice A1 l.length c1, .slice A2 m.length c2] 23)
  refine (join_v _ _ [.slice A1 l.length c1, .slice A2 m.length c2] [l, m] (sl_lit _ _ _ _ _ _ _ rfl rfl (by simp) (by simp [maxLen])) (parts_cons (X3.out.on HA) (parts_cons (Y3.out.on HA) (parts_nil _ _))) (by simp; omega) (by simp)).mono ?_
  rintro e w4 ⟨hb4, v4, rfl, hv4⟩
  rw [show [l, m].flatten = q by simp [HQ.out]] at hv4
  have K4 := Lib.hid (own_base hv4 HA.size)
  have hA4 := bthen HA hb4
  have HC4 := Lib.hid (bthen HC3.out hA4)
  have X4 := Lib.hid (X3.out.on hA4)
  have J4 := Lib.hid (own_on J3.out hA4)
  have hg4 : w3.heap.size ≤ w4.heap.size := hA4.size
  have HC4b := Lib.hid HC4.out.size
  have JB := Lib.hid J3.out.lt
  have KB := Lib.hid K4.out.lt
  clear hb4 hv4 hA4 HA J3 X3 Y3 HC3
  go_wp2_with fail
  refine (take_v _ _ _ l [] X4.out (Sl.nil _ _ _) (by omega) (by simp)).mono ?_
  rintro e w5 ⟨hb5, hok, _⟩
  obtain ⟨v5, u5, rfl, _, hu5, _⟩ := hok (by simp [takeE, offs])
  rw [show l.drop (offs [] ([] : List Int).length) = l by simp [offs]] at hu5
  have HC5 := Lib.hid (bthen HC4.out hb5)
  have J5 := Lib.hid (own_on J4.out hb5)
  have K5 := Lib.hid (own_on K4.out hb5)
  have R5 := Lib.hid hu5
  clear hb5 hok hu5 HC4 J4 K4
  obtain ⟨A3, c3, e3, _⟩ := BS.of_own rfl J5.out
  obtain ⟨A4, c4, e4, _⟩ := BS.of_own rfl K5.out
  obtain ⟨A5, c5, e5, _⟩ := BS.of_own rfl R5.out
  subst e3 e4 e5
  go_wp2_with fail
  go_loopw [12] (fun i wr => ∃ (j : Nat) (d : List UInt8), j ≤ q.length ∧ d.length = q.length ∧ i = .int .i64 j ∧ wr.ownsRow w2.heap.size 5 1 (.slice A3 q.length c3) q.length (bys d) ∧ wr.ownsRow w3.heap.size 5 1 (.slice A4 q.length c4) q.length (bys q) ∧ wr.ownsRow w4.heap.size 5 1 (.slice A5 l.length c5) l.length (bys l) ∧ Below w2.heap.size w2 wr) (fun i _ => q.length - (intOf i).toNat)
  case atStart => exact ⟨0, q, Nat.zero_le _, rfl, rfl, J5.out, K5.out, R5.out, HC5.out⟩
  case round =>
    obtain ⟨j, d, hj, hd, rfl, h1, h2, h3, hbel⟩ := hrel
    obtain ⟨wo, rfl⟩ : ∃ wo : World, wo = wr := ⟨_, rfl⟩
    have HO := Lib.hid h1
    have HK := Lib.hid h2
    have HR := Lib.hid h3
    have HW := Lib.hid hbel
    have HD := Lib.hid hd
    clear h1 h2 h3 hbel hd
    by_cases hlt : j < q.length
    · obtain ⟨g, rfl⟩ : ∃ g, A3 = some ⟨g, 0, none⟩ := by
        rcases HO.out.2 with ⟨e1, e2⟩ | ⟨g, cap, cur, e, _⟩
        · injection e1 with e1 e2 e3
          omega
        · injection e with e1 e2 e3
          exact ⟨g, e1⟩
      have hgb : w2.heap.size ≤ g ∧ g < w3.heap.size := JB.out g rfl
      have d1 := HO.out.cellAt j (by omega)
      rw [bys_at (by rw [HD.out]; exact hlt)] at d1
      have d4 := HO.out.frozenAt j
      have hjd : j < d.length := by rw [HD.out]; exact hlt
      have hst := HO.out.stored j (.int .u8 ((d[j] + 1).toNat : Int))
      rw [bys_set, ← inc_u8] at hst
      have HK' := Lib.hid (ownsRow_setCell_other HK.out (a := ⟨g, j, none⟩) (by intro h; have := (HK.out.lt g h).1; omega) (.int .u8 (IntKind.u8.wrap ((d[j].toNat : Int) + 1))))
      have HR' := Lib.hid (ownsRow_setCell_other HR.out (a := ⟨g, j, none⟩) (by intro h; have := (HR.out.lt g h).1; omega) (.int .u8 (IntKind.u8.wrap ((d[j].toNat : Int) + 1))))
      have HW' := Lib.hid (show Below w2.heap.size w2 (wo.setCell ⟨g, j, none⟩ (.int .u8 (IntKind.u8.wrap ((d[j].toNat : Int) + 1)))) from HW.out.setCell hgb.1 _)
      have hdl : (d.set j (d[j] + 1)).length = q.length := by rw [List.length_set]; exact HD.out
      generalize d.set j (d[j] + 1) = d' at *
      generalize d[j] = x at *
      have HST := Lib.hid hst
      have HDL := Lib.hid hdl
      clear hst hjd hdl
      go_wp2_with fail
      go_roundw
      case rel => exact ⟨j + 1, d', by omega, HDL.out, by go_num, HST.out.1, HK'.out, HR'.out, HW'.out⟩
      case measure => simp [intOf]; omega
    · obtain rfl : j = q.length := by omega
      clear HO hlt hj HD J5 K5 R5 HC5 X4
      go_wp2_with fail
      go_loopw [13] (fun i wr => ∃ (j : Nat) (d : List UInt8), j ≤ l.length ∧ d.length = l.length ∧ i = .int .i64 j ∧ wr.ownsRow w3.heap.size 5 1 (.slice A4 q.length c4) q.length (bys q) ∧ wr.ownsRow w4.heap.size 5 1 (.slice A5 l.length c5) l.length (bys d) ∧ Below w2.heap.size w2 wr) (fun i _ => l.length - (intOf i).toNat)
      case atStart => exact ⟨0, l, Nat.zero_le _, rfl, rfl, HK.out, HR.out, HW.out⟩
      case round =>
        clear HK HR HW
        obtain ⟨j, d, hj, hd, rfl, h2, h3, hbel⟩ := hrel
        obtain ⟨wo, rfl⟩ : ∃ wo : World, wo = wr := ⟨_, rfl⟩
        have HK := Lib.hid h2
        have HR := Lib.hid h3
        have HW := Lib.hid hbel
        have HD := Lib.hid hd
        clear h2 h3 hbel hd
        by_cases hlt : j < l.length
        · obtain ⟨g, rfl⟩ : ∃ g, A5 = some ⟨g, 0, none⟩ := by
            rcases HR.out.2 with ⟨e1, e2⟩ | ⟨g, cap, cur, e, _⟩
            · injection e1 with e1 e2 e3
              omega
            · injection e with e1 e2 e3
              exact ⟨g, e1⟩
          have hgb : w4.heap.size ≤ g := (HR.out.lt g rfl).1
          have d1 := HR.out.cellAt j (by omega)
          rw [bys_at (by rw [HD.out]; exact hlt)] at d1
          have d4 := HR.out.frozenAt j
          have hjd : j < d.length := by rw [HD.out]; exact hlt
          have hst := HR.out.stored j (.int .u8 ((d[j] + 1).toNat : Int))
          rw [bys_set, ← inc_u8] at hst
          have HK' := Lib.hid (ownsRow_setCell_other HK.out (a := ⟨g, j, none⟩) (by intro h; have := (KB.out g h).2; omega) (.int .u8 (IntKind.u8.wrap ((d[j].toNat : Int) + 1))))
          have HW' := Lib.hid (show Below w2.heap.size w2 (wo.setCell ⟨g, j, none⟩ (.int .u8 (IntKind.u8.wrap ((d[j].toNat : Int) + 1)))) from HW.out.setCell (by have := HC4b.out; simp only; omega) _)
          have hdl : (d.set j (d[j] + 1)).length = l.length := by rw [List.length_set]; exact HD.out
          generalize d.set j (d[j] + 1) = d' at *
          generalize d[j] = x at *
          have HST := Lib.hid hst
          have HDL := Lib.hid hdl
          clear hst hjd hdl
          go_wp2_with fail
          go_roundw
          case rel => exact ⟨j + 1, d', by omega, HDL.out, by go_num, HK'.out, HST.out.1, HW'.out⟩
          case measure => simp [intOf]; omega
        · obtain rfl : j = l.length := by omega
          have HBW := Lib.hid (bthen HB2.out HW.out)
          have X6 := Lib.hid (X2.out.on HW.out)
          have Y6 := Lib.hid (Y2.out.on HW.out)
          have K6 := Lib.hid (BS.of_own rfl HK.out)
          clear HR HK HW HD hlt hj KB JB X2 Y2 HB2 HC4b
          go_wp2_with fail
          refine (lives02 _).mono ?_
          rintro e w7 ⟨rfl, hb7⟩
          have HB7 := Lib.hid (bthen HBW.out hb7)
          have X7 := Lib.hid (X6.out.on hb7)
          have Y7 := Lib.hid (Y6.out.on hb7)
          have K7 := Lib.hid (K6.out.on hb7)
          clear hb7 HBW X6 Y6 K6
          go_wp2_with fail
          refine (same_b _ _ _ l l X7.out (HV.out.on HB7.out)).mono ?_
          rintro e w8 ⟨rfl, hb8⟩
          rw [decide_eq_true (rfl : l = l)]
          have HB8 := Lib.hid (bthen HB7.out hb8)
          have Y8 := Lib.hid (Y7.out.on hb8)
          have K8 := Lib.hid (K7.out.on hb8)
          clear hb8 HB7 X7 Y7 K7
          go_wp2_with fail
          refine (same_b _ _ _ m m Y8.out (HU.out.on HB8.out)).mono ?_
          rintro e w9 ⟨rfl, hb9⟩
          rw [decide_eq_true (rfl : m = m)]
          have HB9 := Lib.hid (bthen HB8.out hb9)
          have K9 := Lib.hid (K8.out.on hb9)
          clear hb9 HB8 Y8 K8
          go_wp2_with fail
          refine (copied_v _ _ l (HV.out.on HB9.out) (by omega)).mono ?_
          rintro e w10 ⟨hb10, v10, rfl, hv10⟩
          have HB10 := Lib.hid (bthen HB9.out hb10)
          have O10 := Lib.hid hv10
          have HBC := Lib.hid hb10
          have U10 := Lib.hid (HU.out.on HB10.out)
          clear hb10 hv10
          go_wp2_with (first
            | (at_builtin
               refine app_sl_g _ elB (by rfl) (.tmp 74) (.tmp 75) rfl rfl O10.out rfl U10.out ?_ ?_ ?_ ?_
               (case refine_1 => exact bys_one _)
               (case refine_2 => omega)
               (case refine_3 => exact HBC.out.size)
               intro v11 w11 hown11 hg11 hnil11 hat11)
            | fail)
          have hb11 := below_app HBC.out O10.out hg11 (Nat.le_refl _) HBC.out.size
          have HB11 := Lib.hid (bthen HB9.out hb11)
          have hK11 := K9.out.on hb11
          rw [hql] at hK11
          have K11 := Lib.hid hK11
          have M11 := Lib.hid (BS.of_own (n := l.length + m.length) (l := l ++ m) (by rw [List.length_append]) (by rw [bys_append]; exact hown11))
          clear hown11 hg11 hnil11 hat11 hb11 hK11 O10 U10 HBC HB10 HB9 K9
          refine (same_b _ _ _ q (l ++ m) K11.out M11.out).mono ?_
          rintro e w12 ⟨rfl, hb12⟩
          rw [decide_eq_true HQ.out]
          have HB12 := Lib.hid (bthen HB11.out hb12)
          clear hb12 K11 M11 HB11
          go_wp2_with fail
          go_ret
          exact ⟨rfl, HB12.out⟩
end Go.Proofs.Ytpomobeogkfmfaa
