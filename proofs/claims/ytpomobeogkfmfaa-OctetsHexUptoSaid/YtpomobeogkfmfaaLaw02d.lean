/- The walks of the laws OctetsHex, OctetsJoins: they return true. -/
import Derived.Test.YtpomobeogkfmfaaLaw02b
namespace Go.Proofs.Ytpomobeogkfmfaa
open Go.RowKit

set_option maxRecDepth 100000 in
set_option maxHeartbeats 1000000 in
theorem octetsHex_walk (l : List UInt8) (s : ByteArray) (hl : l.length ≤ 70368744177664) (hsz : s.size ≤ 140737488355328) (v : Value) (w : World) (hb : BS w w.heap.size v l) :
    Calls Try.prog 6 #[v, .string s] w fun e w' => e = .returned (.bool true) ∧ Below w.heap.size w w' := by
  have HB := Lib.hid hb
  clear hb
  go_enter Try.func6, Try.ntmps6
  go_wp2_with fail
  refine (unhex_any s w hsz).mono ?_
  rintro e w1 hp
  cases hres : unhexS s.data.toList with
  | none =>
    have HR := Lib.hid hres
    obtain ⟨hb1, rfl⟩ := hp.bad hres
    have HB1 := Lib.hid hb1
    clear hp hres hb1
    go_wp2_with fail
    refine (refunhex_any s _ hsz).mono ?_
    rintro e w2 hp
    obtain ⟨hb2, rfl⟩ := hp.bad HR.out
    have HB2 := Lib.hid (bthen HB1.out hb2)
    clear hp hb2
    go_wp2_with fail
    refine (lives02 _).mono ?_
    rintro e w3 ⟨rfl, hb3⟩
    have HB3 := Lib.hid (bthen HB2.out hb3)
    clear hb3
    go_wp2_with fail
    refine (copied_v _ _ l (HB.out.on HB3.out) (by omega)).mono ?_
    rintro e w4 ⟨hb4, v4, rfl, hv4⟩
    have HB4 := Lib.hid (bthen HB3.out hb4)
    have V4 := Lib.hid (BS.of_own rfl hv4)
    clear hb4 hv4
    go_wp2_with fail
    refine (hex_v _ _ l V4.out hl).mono ?_
    rintro e w5 ⟨hb5, rfl⟩
    have HB5 := Lib.hid (bthen HB4.out hb5)
    clear hb5 V4
    go_wp2_with fail
    refine (refhex_v _ _ l (HB.out.on HB5.out) hl).mono ?_
    rintro e w6 ⟨hb6, rfl⟩
    have HB6 := Lib.hid (bthen HB5.out hb6)
    clear hb6
    go_wp2_with fail
    refine (same_b _ _ _ [] [] (BS.nil _ _) (BS.nil _ _)).mono ?_
    rintro e w7 ⟨rfl, hb7⟩
    have HB7 := Lib.hid (bthen HB6.out hb7)
    clear hb7
    go_wp2_with fail
    go_ret
    exact ⟨by simp, HB7.out⟩
  | some ys =>
    have HR := Lib.hid hres
    obtain ⟨hb1, v1, rfl, hv1⟩ := hp.ok hres
    have HB1 := Lib.hid hb1
    have V1 := Lib.hid (BS.of_own rfl hv1)
    clear hp hres hb1 hv1
    go_wp2_with fail
    refine (refunhex_any s _ hsz).mono ?_
    rintro e w2 hp
    obtain ⟨hb2, v2, rfl, hv2⟩ := hp.ok HR.out
    have HB2 := Lib.hid (bthen HB1.out hb2)
    have V1' := Lib.hid (V1.out.on hb2)
    have V2 := Lib.hid (BS.of_own rfl hv2)
    clear hp hb2 hv2 V1
    go_wp2_with fail
    refine (lives02 _).mono ?_
    rintro e w3 ⟨rfl, hb3⟩
    have HB3 := Lib.hid (bthen HB2.out hb3)
    have V1 := Lib.hid (V1'.out.on hb3)
    have V2' := Lib.hid (V2.out.on hb3)
    clear hb3 V1' V2
    go_wp2_with fail
    refine (copied_v _ _ l (HB.out.on HB3.out) (by omega)).mono ?_
    rintro e w4 ⟨hb4, v4, rfl, hv4⟩
    have HB4 := Lib.hid (bthen HB3.out hb4)
    have V1' := Lib.hid (V1.out.on hb4)
    have V2 := Lib.hid (V2'.out.on hb4)
    have V4 := Lib.hid (BS.of_own rfl hv4)
    clear hb4 hv4 V1 V2'
    go_wp2_with fail
    refine (hex_v _ _ l V4.out hl).mono ?_
    rintro e w5 ⟨hb5, rfl⟩
    have HB5 := Lib.hid (bthen HB4.out hb5)
    have V1 := Lib.hid (V1'.out.on hb5)
    have V2' := Lib.hid (V2.out.on hb5)
    clear hb5 V4 V1' V2
    go_wp2_with fail
    refine (refhex_v _ _ l (HB.out.on HB5.out) hl).mono ?_
    rintro e w6 ⟨hb6, rfl⟩
    have HB6 := Lib.hid (bthen HB5.out hb6)
    have V1' := Lib.hid (V1.out.on hb6)
    have V2 := Lib.hid (V2'.out.on hb6)
    clear hb6 V1 V2'
    go_wp2_with fail
    refine (same_b _ _ _ ys ys V1'.out V2.out).mono ?_
    rintro e w7 ⟨rfl, hb7⟩
    have HB7 := Lib.hid (bthen HB6.out hb7)
    clear hb7
    go_wp2_with fail
    go_ret
    exact ⟨by simp, HB7.out⟩

set_option maxRecDepth 100000 in
set_option maxHeartbeats 1000000 in
theorem octetsJoins_walk (l k m : List UInt8) (hl : l.length + k.length + m.length ≤ 1048576) (v u x : Value) (w : World) (hv : BS w w.heap.size v l) (hu : BS w w.heap.size u k) (hx : BS w w.heap.size x m) :
    Calls Try.prog 5 #[v, u, x] w fun e w' => e = .returned (.bool true) ∧ Below w.heap.size w w' := by
  have HV := Lib.hid hv
  have HU := Lib.hid hu
  have HX := Lib.hid hx
  clear hv hu hx
  go_enter Try.func5, Try.ntmps5
  go_wp2_with fail
  refine (copied_v _ _ l HV.out (by omega)).mono ?_
  rintro e w1 ⟨hb1, v1, rfl, hv1⟩
  have HB1 := Lib.hid hb1
  have O1 := Lib.hid hv1
  have U1 := Lib.hid (HU.out.on hb1)
  clear hb1 hv1
  go_wp2_with (first
    | (at_builtin
       refine app_sl _ elB rfl (.tmp 9) (.tmp 10) rfl rfl O1.out rfl U1.out ?_ ?_ ?_ ?_
       (case refine_1 => exact bys_one _)
       (case refine_2 => omega)
       (case refine_3 => exact HB1.out.size)
       intro v2 w2 hown2 hg2 hnil2 hat2
       have hb2 : Below w.heap.size w w2 := below_app HB1.out O1.out hg2 (Nat.le_refl _) HB1.out.size
       have O2 := Lib.hid hown2
       have HB2 := Lib.hid hb2
       have X2 := Lib.hid (HX.out.on hb2)
       clear hown2 hg2 hnil2 hat2 hb2 O1 U1 HB1)
    | (at_builtin
       refine app_sl _ elB rfl (.tmp 11) (.tmp 12) rfl rfl O2.out rfl X2.out ?_ ?_ ?_ ?_
       (case refine_1 => exact bys_one _)
       (case refine_2 => omega)
       (case refine_3 => exact HB2.out.size)
       intro v3 w3 hown3 hg3 hnil3 hat3)
    | fail)
  have hb3 : Below w.heap.size w w3 := below_app HB2.out O2.out hg3 (Nat.le_refl _) HB2.out.size
  have ALL := Lib.hid (BS.of_own (n := l.length + k.length + m.length) (l := (l ++ k) ++ m) (by simp only [List.length_append]) (by rw [bys_append, bys_append]; exact hown3))
  have HB3 := Lib.hid hb3
  clear hown3 hg3 hnil3 hat3 hb3 O2 HB2 X2
  refine (lives02 _).mono ?_
  rintro e w4 ⟨rfl, hb4⟩
  have HB4 := Lib.hid (bthen HB3.out hb4)
  have ALL' := Lib.hid (ALL.out.on hb4)
  clear hb4 ALL
  go_wp2_with fail
  refine (copied_v _ _ l (HV.out.on HB4.out) (by omega)).mono ?_
  rintro e w5 ⟨hb5, v5, rfl, hv5⟩
  have HB5 := Lib.hid (bthen HB4.out hb5)
  have ALL := Lib.hid (ALL'.out.on hb5)
  have V5 := Lib.hid (BS.of_own rfl hv5)
  clear hb5 hv5 ALL'
  go_wp2_with fail
  refine (copied_v _ _ k (HU.out.on HB5.out) (by omega)).mono ?_
  rintro e w6 ⟨hb6, v6, rfl, hv6⟩
  have HB6 := Lib.hid (bthen HB5.out hb6)
  have ALL' := Lib.hid (ALL.out.on hb6)
  have V5' := Lib.hid (V5.out.on hb6)
  have V6 := Lib.hid (BS.of_own rfl hv6)
  clear hb6 hv6 ALL V5
  go_wp2_with fail
  refine (copied_v _ _ m (HX.out.on HB6.out) (by omega)).mono ?_
  rintro e w7 ⟨hb7, v7, rfl, hv7⟩
  have HB7 := Lib.hid (bthen HB6.out hb7)
  have ALL := Lib.hid (ALL'.out.on hb7)
  have V5 := Lib.hid (V5'.out.on hb7)
  have V6' := Lib.hid (V6.out.on hb7)
  have V7 := Lib.hid (BS.of_own rfl hv7)
  clear hb7 hv7 ALL' V5' V6
  obtain ⟨A5, c5, e5, _⟩ := V5.out
  obtain ⟨A6, c6, e6, _⟩ := V6'.out
  obtain ⟨A7, c7, e7, _⟩ := V7.out
  subst e5 e6 e7
  go_wp2_with fail
  have HA := al1 w7 (.cells #[.slice A5 l.length c5, .slice A6 k.length c6, .slice A7 m.length c7] 23)
  refine (join_v _ _ [.slice A5 l.length c5, .slice A6 k.length c6, .slice A7 m.length c7] [l, k, m] (sl_lit _ _ _ _ _ _ _ rfl rfl (by simp) (by simp [maxLen])) (parts_cons (V5.out.on HA) (parts_cons (V6'.out.on HA) (parts_cons (V7.out.on HA) (parts_nil _ _)))) (by simp; omega) (by simp)).mono ?_
  rintro e w8 ⟨hb8, v8, rfl, hv8⟩
  have HB8 := Lib.hid (bthen HB7.out (bthen HA hb8))
  have ALL' := Lib.hid ((ALL.out.on HA).on hb8)
  have V8 := Lib.hid (BS.of_own rfl hv8)
  clear hb8 hv8 ALL V5 V6' V7 HA
  go_wp2_with fail
  refine (same_b _ _ _ _ _ V8.out ALL'.out).mono ?_
  rintro e w9 ⟨rfl, hb9⟩
  have HB9 := Lib.hid (bthen HB8.out hb9)
  rw [decide_eq_true (show [l, k, m].flatten = l ++ k ++ m by simp)]
  clear hb9 V8 ALL'
  go_wp2_with fail
  refine (copied_v _ _ l (HV.out.on HB9.out) (by omega)).mono ?_
  rintro e w10 ⟨hb10, v10, rfl, hv10⟩
  have HB10 := Lib.hid (bthen HB9.out hb10)
  have V10 := Lib.hid (BS.of_own rfl hv10)
  clear hb10 hv10
  go_wp2_with fail
  refine (copied_v _ _ k (HU.out.on HB10.out) (by omega)).mono ?_
  rintro e w11 ⟨hb11, v11, rfl, hv11⟩
  have HB11 := Lib.hid (bthen HB10.out hb11)
  have V10' := Lib.hid (V10.out.on hb11)
  have V11 := Lib.hid (BS.of_own rfl hv11)
  clear hb11 hv11 V10
  go_wp2_with fail
  refine (xor_v _ _ _ l k V10'.out V11.out (by omega) (by omega)).mono ?_
  rintro e w12 ⟨hb12, v12, rfl, hv12⟩
  have HB12 := Lib.hid (bthen HB11.out hb12)
  have V12 := Lib.hid (BS.of_own rfl hv12)
  clear hb12 hv12 V10' V11
  go_wp2_with fail
  refine (refxor_v _ _ _ l k (HV.out.on HB12.out) (HU.out.on HB12.out) (by omega) (by omega)).mono ?_
  rintro e w13 ⟨hb13, v13, rfl, hv13⟩
  have HB13 := Lib.hid (bthen HB12.out hb13)
  have V12' := Lib.hid (V12.out.on hb13)
  have V13 := Lib.hid (BS.of_own rfl hv13)
  clear hb13 hv13 V12
  go_wp2_with fail
  refine (same_b _ _ _ _ _ V12'.out V13.out).mono ?_
  rintro e w14 ⟨rfl, hb14⟩
  have HB14 := Lib.hid (bthen HB13.out hb14)
  rw [decide_eq_true (rfl : xorS l k = xorS l k)]
  clear hb14 V12' V13
  go_wp2_with fail
  refine (join_v _ _ [] [] (Sl.nil _ _ _) (parts_nil _ _) (by simp) (by simp)).mono ?_
  rintro e w15 ⟨hb15, v15, rfl, hv15⟩
  have HB15 := Lib.hid (bthen HB14.out hb15)
  obtain ⟨A15, c15, e15, _⟩ := BS.of_own (l := []) rfl hv15
  subst e15
  clear hb15 hv15
  go_wp2_with fail
  go_ret
  exact ⟨by simp, HB15.out⟩
end Go.Proofs.Ytpomobeogkfmfaa
