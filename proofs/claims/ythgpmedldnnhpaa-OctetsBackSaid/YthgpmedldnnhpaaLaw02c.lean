/- The walks of the laws OctetsPut, OctetsTake: they return true. -/
import Derived.Test.YthgpmedldnnhpaaLaw02b
namespace Go.Proofs.Ythgpmedldnnhpaa
open Go.RowKit

theorem flds_copy (w : World) (v : Value) (l : List (Int × Nat)) (hs : Sl w w.heap.size 2 v l.length (flds l)) : Sl (w.alloc (.cells #[] 47)) (w.alloc (.cells #[] 47)).heap.size 2 v l.length (flds l) := hs.on (al1 _ _)

set_option maxRecDepth 100000 in
set_option maxHeartbeats 1000000 in
theorem octetsPut_walk (l : List (Int × Nat)) (hv : ∀ f ∈ l, f.2 < 2 ^ 64) (hlen : l.length ≤ 8796093022208) (v : Value) (w : World) (hs : Sl w w.heap.size 2 v l.length (flds l)) :
    Calls Try.prog 3 #[v] w fun e w' => e = .returned (.bool true) ∧ Below w.heap.size w w' := by
  have HL := Lib.hid (World.ownsRow_lit (base := w.heap.size) (e := 47) (size := 2) w #[] 0 (Nat.le_refl _) (by simp [maxLen]) rfl)
  have HB := Lib.hid (flds_copy w v l hs)
  have HS := Lib.hid hs
  have HV := Lib.hid hv
  clear hs hv
  go_enter Try.func3, Try.ntmps3
  go_wp2_with (first
    | (at_builtin
       refine app_sl _ elF rfl (.tmp 8) (.tmp 9) rfl rfl HL.out rfl HB.out ?_ ?_ ?_ ?_
       (case refine_1 => exact flds_one _)
       (case refine_2 => omega)
       (case refine_3 => simp)
       intro v1 w1 hown1 hg1 hnil1 hat1)
    | fail)
  have hb1 : Below w.heap.size w w1 := below_app (al1 _ _) HL.out hg1 (Nat.le_refl _) (by simp)
  have S1 := Lib.hid (Sl.of_own hown1)
  have HB1 := Lib.hid hb1
  clear hown1 hg1 hnil1 hat1 hb1 HL HB
  refine (put_v _ _ l HV.out hlen (by simpa using S1.out)).mono ?_
  rintro e w2 hp
  cases hres : putS l with
  | none =>
    have HR := Lib.hid hres
    obtain ⟨hb2, rfl⟩ := hp.bad hres
    have HB2 := Lib.hid (bthen HB1.out hb2)
    clear hp hres hb2 S1
    go_wp2_with fail
    refine (refput_v _ _ l HV.out hlen (HS.out.on HB2.out)).mono ?_
    rintro e w3 hp
    obtain ⟨hb3, rfl⟩ := hp.bad HR.out
    have HB3 := Lib.hid (bthen HB2.out hb3)
    clear hp hb3
    go_wp2_with fail
    refine (lives02 _).mono ?_
    rintro e w4 ⟨rfl, hb4⟩
    have HB4 := Lib.hid (bthen HB3.out hb4)
    clear hb4
    go_wp2_with fail
    refine (same_b _ _ _ [] [] (BS.nil _ _) (BS.nil _ _)).mono ?_
    rintro e w5 ⟨rfl, hb5⟩
    have HB5 := Lib.hid (bthen HB4.out hb5)
    clear hb5
    go_wp2_with fail
    go_ret
    exact ⟨rfl, HB5.out⟩
  | some ys =>
    have HR := Lib.hid hres
    obtain ⟨hb2, v2, rfl, hv2⟩ := hp.ok hres
    have HB2 := Lib.hid (bthen HB1.out hb2)
    have V2 := Lib.hid (BS.of_own rfl hv2)
    clear hp hres hb2 S1 hv2
    go_wp2_with fail
    refine (refput_v _ _ l HV.out hlen (HS.out.on HB2.out)).mono ?_
    rintro e w3 hp
    obtain ⟨hb3, v3, rfl, hv3⟩ := hp.ok HR.out
    have HB3 := Lib.hid (bthen HB2.out hb3)
    have V2' := Lib.hid (V2.out.on hb3)
    have V3 := Lib.hid (BS.of_own rfl hv3)
    clear hp hb3 V2 hv3
    go_wp2_with fail
    refine (lives02 _).mono ?_
    rintro e w4 ⟨rfl, hb4⟩
    have HB4 := Lib.hid (bthen HB3.out hb4)
    have V2 := Lib.hid (V2'.out.on hb4)
    have V3' := Lib.hid (V3.out.on hb4)
    clear hb4 V2' V3
    go_wp2_with fail
    refine (same_b _ _ _ ys ys V2.out V3'.out).mono ?_
    rintro e w5 ⟨rfl, hb5⟩
    have HB5 := Lib.hid (bthen HB4.out hb5)
    clear hb5
    go_wp2_with fail
    go_ret
    exact ⟨by simp, HB5.out⟩

set_option maxRecDepth 100000 in
set_option maxHeartbeats 1000000 in
theorem octetsTake_walk (l : List UInt8) (sizes : List Int) (hl : l.length ≤ 140737488355328) (hn : sizes.length ≤ 17592186044416) (v u : Value) (w : World) (hb : BS w w.heap.size v l) (hs : Sl w w.heap.size 1 u sizes.length (ints sizes)) :
    Calls Try.prog 4 #[v, u] w fun e w' => e = .returned (.bool true) ∧ Below w.heap.size w w' := by
  have HS := Lib.hid hs
  have HB := Lib.hid hb
  clear hs hb
  go_enter Try.func4, Try.ntmps4
  go_wp2_with fail
  refine (copied_v _ _ l HB.out hl).mono ?_
  rintro e w1 ⟨hb1, v1, rfl, hv1⟩
  have HB1 := Lib.hid hb1
  have V1 := Lib.hid (BS.of_own rfl hv1)
  have HL := Lib.hid (World.ownsRow_lit (base := w1.heap.size) (e := 3) (size := 1) w1 #[] 0 (Nat.le_refl _) (by simp [maxLen]) rfl)
  have HSC := Lib.hid ((HS.out.on hb1).on (al1 w1 (.cells #[] 3)))
  clear hb1 hv1
  go_wp2_with (first
    | (at_builtin
       refine app_sl _ elI rfl (.tmp 14) (.tmp 15) rfl rfl HL.out rfl HSC.out ?_ ?_ ?_ ?_
       (case refine_1 => exact ints_one _)
       (case refine_2 => omega)
       (case refine_3 => simp)
       intro v2 w2 hown2 hg2 hnil2 hat2)
    | fail)
  have hb2 : Below w1.heap.size w1 w2 := below_app (al1 _ _) HL.out hg2 (Nat.le_refl _) (by simp)
  have S2 := Lib.hid (Sl.of_own hown2)
  have V1' := Lib.hid (V1.out.on hb2)
  have HB2 := Lib.hid (bthen HB1.out hb2)
  clear hown2 hg2 hnil2 hat2 hb2 V1 HL HSC
  refine (take_v _ _ _ l sizes V1'.out (by simpa using S2.out) (Nat.le_trans hl (by omega)) hn).mono ?_
  rintro e w3 ⟨hb3, hok, hbad⟩
  have HB3 := Lib.hid (bthen HB2.out hb3)
  by_cases hres : takeE l sizes = 0
  · obtain ⟨v3, u3, rfl, hv3, hu3, _⟩ := hok hres
    have V3 := Lib.hid (Sl.of_own hv3)
    have U3 := Lib.hid (BS.of_own rfl hu3)
    have HR := Lib.hid hres
    clear hok hbad hb3 hv3 hu3 hres S2 V1'
    go_wp2_with fail
    refine (reftake_v _ _ _ l sizes (HB.out.on HB3.out) (HS.out.on HB3.out) hl hn).mono ?_
    rintro e w4 ⟨hb4, hok, _⟩
    obtain ⟨v4, u4, rfl, hv4, hu4, _⟩ := hok HR.out
    have HB4 := Lib.hid (bthen HB3.out hb4)
    have V3' := Lib.hid (V3.out.on hb4)
    have U3' := Lib.hid (U3.out.on hb4)
    have V4 := Lib.hid (Sl.of_own hv4)
    have U4 := Lib.hid (BS.of_own rfl hu4)
    clear hok hb4 hv4 hu4 V3 U3
    go_wp2_with fail
    refine (lives02 _).mono ?_
    rintro e w5 ⟨rfl, hb5⟩
    have HB5 := Lib.hid (bthen HB4.out hb5)
    have V3 := Lib.hid (V3'.out.on hb5)
    have U3 := Lib.hid (U3'.out.on hb5)
    have V4' := Lib.hid (V4.out.on hb5)
    have U4' := Lib.hid (U4.out.on hb5)
    clear hb5 V3' U3' V4 U4
    go_wp2_with fail
    refine (samenum_b _ _ _ (takeV l sizes sizes.length) (takeV l sizes sizes.length) (by rw [takeV_length]; exact V3.out) (by rw [takeV_length]; exact V4'.out)).mono ?_
    rintro e w6 ⟨rfl, hb6⟩
    rw [decide_eq_true (rfl : takeV l sizes sizes.length = takeV l sizes sizes.length)]
    have HB6 := Lib.hid (bthen HB5.out hb6)
    have U3' := Lib.hid (U3.out.on hb6)
    have U4 := Lib.hid (U4'.out.on hb6)
    clear hb6 V3 U3 V4' U4'
    go_wp2_with fail
    refine (same_b _ _ _ _ _ U3'.out U4.out).mono ?_
    rintro e w7 ⟨rfl, hb7⟩
    have HB7 := Lib.hid (bthen HB6.out hb7)
    clear hb7
    go_wp2_with fail
    go_ret
    exact ⟨by simp, HB7.out⟩
  · obtain rfl := hbad hres
    have HR := Lib.hid hres
    clear hok hbad hb3 hres S2 V1'
    go_wp2_with fail
    refine (reftake_v _ _ _ l sizes (HB.out.on HB3.out) (HS.out.on HB3.out) hl hn).mono ?_
    rintro e w4 ⟨hb4, _, hbad⟩
    obtain rfl := hbad HR.out
    have HB4 := Lib.hid (bthen HB3.out hb4)
    clear hbad hb4
    generalize takeE l sizes = er at *
    go_wp2_with fail
    refine (lives02 _).mono ?_
    rintro e w5 ⟨rfl, hb5⟩
    have HB5 := Lib.hid (bthen HB4.out hb5)
    clear hb5
    go_wp2_with fail
    refine (samenum_b _ _ _ [] [] (Sl.nil _ _ _) (Sl.nil _ _ _)).mono ?_
    rintro e w6 ⟨rfl, hb6⟩
    have HB6 := Lib.hid (bthen HB5.out hb6)
    clear hb6
    go_wp2_with fail
    refine (same_b _ _ _ [] [] (BS.nil _ _) (BS.nil _ _)).mono ?_
    rintro e w7 ⟨rfl, hb7⟩
    have HB7 := Lib.hid (bthen HB6.out hb7)
    clear hb7
    go_wp2_with fail
    go_ret
    exact ⟨rfl, HB7.out⟩
end Go.Proofs.Ythgpmedldnnhpaa
