/- Walks of the reference of package transport: Encode. No condition. -/
import Derived.Test.YtkpjinkkjbljkaaTr6
import Derived.Test.YtkpjinkkjbljkaaBy
namespace Go.Proofs.Ytkpjinkkjbljkaa
open Go.RowKit

theorem le_one (x : Nat) : le 1 x = [UInt8.ofNat x] := by simp [le]
set_option maxRecDepth 100000 in
set_option maxHeartbeats 4000000 in
theorem rtencode_bad (p : Low) (A : Option Addr) (n c : Nat) (hc : chkL p n ≠ 0) (w : World) : Calls Try.prog 17 #[lowV p (.slice A n c)] w fun e w' => e = .returned (.tuple #[.slice none 0 0, .int .i64 (chkL p n)]) ∧ Below w.heap.size w w' := by
  have C := Lib.hid (rtcheck_any p A n c)
  have hc' := ne_bool hc
  clear hc
  generalize chkL p n = cc at *
  obtain ⟨ct, s, a, z, i, l, o, b, f⟩ := p
  go_enter Try.func17, Try.ntmps17
  go_wp2_with fail
  refine (C.out _).mono ?_
  rintro e w1 ⟨rfl, hb1⟩
  have HB1 := Lib.hid (one hb1)
  clear hb1 C
  go_wp2_with fail
  go_ret2
  exact ⟨rfl, HB1.out⟩

set_option maxRecDepth 100000 in
set_option maxHeartbeats 4000000 in
theorem rtencode_A (s a : Bool) (z : Nat) (i l : Int) (b : Nat) (f : Bool) (bl : List UInt8) (A : Option Addr) (c : Nat) (hc : chkL ⟨true, s, a, z, i, l, 0, b, f⟩ bl.length = 0) (hz : z ≤ 8191) (hbk : b < 4294967296) (w : World) (hb : BS w w.heap.size (.slice A bl.length c) bl) (hl : bl.length ≤ 15) : Calls Try.prog 17 #[lowC true s a z i l 0 b f (.slice A bl.length c)] w fun e w' => Below w.heap.size w w' ∧ ∃ v, e = .returned (.tuple #[v, .int .i64 0]) ∧ OB w' w.heap.size v (fieldB [(1, 0), (2, z + fl f 8192), (4, b)] ++ bl) := by
  have HB0 := Lib.hid hb
  clear hb
  have C := Lib.hid (rtcheck_any ⟨true, s, a, z, i, l, 0, b, f⟩ A bl.length c)
  rw [hc] at C
  have CF := Lib.hid (bit_any f 8192)
  have hg : fl f 8192 ≤ 8192 := by unfold fl; split <;> omega
  generalize fl f 8192 = g at *
  obtain ⟨x, hx⟩ : ∃ x, x = z + g := ⟨_, rfl⟩
  have hx16 : x ≤ 16383 := by omega
  have hwx : IntKind.u64.wrap ((z : Int) + (g : Int)) = (x : Int) := by rw [hx, ← Int.natCast_add]; exact wr64 (by omega)
  have hwi : IntKind.i64.wrap ((z : Int) + (g : Int)) = (z : Int) + (g : Int) := IntWalk.i64_in _ (by omega)
  have hwb := wr64 (show b ≤ 18446744073709551615 by omega)
  rw [← hx]
  clear hx
  generalize hnn : bl.length = n at *
  have HN := Lib.hid hnn
  clear hnn hc
  go_enter Try.func17, Try.ntmps17
  go_wp2_with fail
  refine (C.out _).mono ?_
  rintro e w1 ⟨rfl, hb1⟩
  have hbx := (low_new w ⟨true, s, a, z, i, l, 0, b, f⟩ (.slice A n c) 25).on hb1
  have hz1 := hbx.lt
  obtain ⟨e0, e1, e2, e3, e4, e5, e6, e7, e8, e9⟩ := low_box hbx
  have HX1 := Lib.hid hbx
  have HB1 := Lib.hid (one hb1)
  have HO1 := Lib.hid (OB.lit w1 0 (by omega))
  clear hb1 C hbx
  go_wp2_with fail
  go_region_held3 (fun w' => w'.cell? ⟨w.heap.size, 3, none⟩ = some (.int .i64 (z : Int)) ∧ w'.cell? ⟨w.heap.size, 7, none⟩ = some (.int .u32 (b : Int)) ∧ w'.cell? ⟨w.heap.size, 8, none⟩ = some (.bool f) ∧ w'.cell? ⟨w.heap.size, 9, none⟩ = some (.slice A n c)) (go_keep)
    (first
      | (go_at_call 37; refine (CF.out _).mono ?_; rintro e w3 ⟨rfl, rfl⟩)
      | (go_at_call 36; refine (num_any 2 x _ (by omega) (by omega)).mono ?_; rintro e w3 ⟨hb3, u, rfl, hu⟩; have hc3 := bfar (w1.heap.size) hb3 (by simp))
      | (refine step_by _ elB rfl (.tmp 23) (.tmp 31) rfl rfl (own_on (own_drew HO1.out) hb3) rfl (BS.of_own rfl hu) ?_ ?_ ?_
         (case refine_1 => simp [le_length])
         (case refine_2 => have := hb3.size; simp at this; omega)
         intro v4 w4 hown4 hb4
         have hc4 := fun o => blow hb4 w.heap.size o hz1))
  have HB4 := Lib.hid (show Below w1.heap.size w1 w4 from (one_drew hb3).trans hb4)
  have HX4 := Lib.hid (HX1.out.keep HB4.out hz1)
  have HO4 := Lib.hid hown4
  clear hb3 hb4 hc3 hc4 hu hown4 e0 e1 e2 e3 e4 e5 e6 e7 e8 e9
  obtain ⟨e0, e1, e2, e3, e4, e5, e6, e7, e8, e9⟩ := low_box HX4.out
  have hz4 := HX4.out.lt
  go_wp2_with fail
  refine (num_any 4 b _ (by omega) (by omega)).mono ?_
  rintro e w5 ⟨hb5, u5, rfl, hu5⟩
  have HB5 := Lib.hid (bthen HB4.out hb5 |>.mono (Nat.le_refl _))
  clear e0 e1 e2 e3 e4 e5 e6 e7 e8 e9
  go_wp2_with (first
    | (at_builtin
       refine app_by _ elB rfl (.tmp 33) (.tmp 37) rfl rfl (own_on HO4.out hb5) rfl (BS.of_own rfl hu5) ?_ ?_ ?_
       (case refine_1 => simp [le_length])
       (case refine_2 => exact Nat.le_trans HB4.out.size hb5.size)
       intro v6 w6 hown6 hb6
       have KB := Lib.hid (show Below w1.heap.size w1 w6 from HB5.out.trans hb6)
       have KO := Lib.hid hown6
       have KX := Lib.hid (HX1.out.keep KB.out hz1)
       have KL := Lib.hid (show (([UInt8.ofNat 0] ++ le 2 x) ++ le 4 b).length + bl.length ≤ 140737488355328 by have := HN.out; simp [le_length]; omega)
       obtain ⟨e0, e1, e2, e3, e4, e5, e6, e7, e8, e9⟩ := low_box KX.out
       have hz6 := KX.out.lt
       clear hb5 hb6 hu5 hown6)
    | (at_builtin
       refine app_by _ elB rfl (.tmp 73) (.tmp 75) rfl rfl KO.out rfl (HB0.out.on (bthen HB1.out KB.out)) ?_ ?_ ?_
       (case refine_1 => exact KL.out)
       (case refine_2 => exact KB.out.size)
       intro v9 w9 hown9 hb9)
    )
  go_wp2
  go_ret2
  refine ⟨bthen HB1.out (KB.out.trans hb9), v9, rfl, ?_⟩
  have hq : OB w9 w.heap.size v9 _ := own_base hown9 HB1.out.size
  simpa [fieldB, le_one] using hq

set_option maxRecDepth 100000 in
set_option maxHeartbeats 4000000 in
theorem rtencode_C (a : Bool) (z i l : Int) (o : Nat) (b : Nat) (f : Bool) (bl : List UInt8) (A : Option Addr) (c : Nat) (hc : chkL ⟨true, false, a, z, i, l, o, b, f⟩ bl.length = 0) (h3 : ((o : Int) == 0) = false) (ho : o ≤ 8) (w : World) (hb : BS w w.heap.size (.slice A bl.length c) bl) (hl : bl.length ≤ 15) : Calls Try.prog 17 #[lowC true false a z i l o b f (.slice A bl.length c)] w fun e w' => Below w.heap.size w w' ∧ ∃ v, e = .returned (.tuple #[v, .int .i64 0]) ∧ OB w' w.heap.size v (fieldB [(1, o)] ++ bl) := by
  have HB0 := Lib.hid hb
  clear hb
  have C := Lib.hid (rtcheck_any ⟨true, false, a, z, i, l, o, b, f⟩ A bl.length c)
  rw [hc] at C
  have hwo : IntKind.u8.wrap (o : Int) = (o : Int) := by rw [IntKind.wrap_u8]; omega
  generalize hnn : bl.length = n at *
  have HN := Lib.hid hnn
  clear hnn hc
  go_enter Try.func17, Try.ntmps17
  go_wp2_with fail
  refine (C.out _).mono ?_
  rintro e w1 ⟨rfl, hb1⟩
  have hbx := (low_new w ⟨true, false, a, z, i, l, o, b, f⟩ (.slice A n c) 25).on hb1
  have hz1 := hbx.lt
  obtain ⟨e0, e1, e2, e3, e4, e5, e6, e7, e8, e9⟩ := low_box hbx
  have HX1 := Lib.hid hbx
  have HB1 := Lib.hid (one hb1)
  have HO1 := Lib.hid (OB.lit w1 o (by omega))
  clear hb1 C hbx
  have KO := Lib.hid HO1.out
  have KB := Lib.hid (al1 w1 (.cells #[.int .u8 (o : Int)] 5))
  go_wp2_with (first
    | (at_builtin
       refine app_by _ elB rfl (.tmp 73) (.tmp 75) rfl rfl KO.out rfl (HB0.out.on (bthen HB1.out KB.out)) ?_ ?_ ?_
       (case refine_1 => have := HN.out; simp; omega)
       (case refine_2 => exact KB.out.size)
       intro v9 w9 hown9 hb9)
    )
  go_wp2
  go_ret2
  refine ⟨bthen HB1.out (KB.out.trans hb9), v9, rfl, ?_⟩
  have hq : OB w9 w.heap.size v9 _ := own_base hown9 HB1.out.size
  simpa [fieldB, le_one] using hq

set_option maxRecDepth 100000 in
set_option maxHeartbeats 4000000 in
theorem rtencode_S (a : Bool) (z i l : Nat) (b : Nat) (f : Bool) (bl : List UInt8) (A : Option Addr) (c : Nat) (hc : chkL ⟨false, true, a, z, i, l, 0, b, f⟩ bl.length = 0) (hz : z ≤ 8191) (hi : i ≤ 31) (hla : l ≤ 31) (w : World) (hb : BS w w.heap.size (.slice A bl.length c) bl) (hl : bl.length ≤ 15) : Calls Try.prog 17 #[lowC false true a z i l 0 b f (.slice A bl.length c)] w fun e w' => Below w.heap.size w w' ∧ ∃ v, e = .returned (.tuple #[v, .int .i64 0]) ∧ OB w' w.heap.size v (fieldB [(1, 128 + fl a 64), (3, z + i * 8192 + l * 262144)] ++ bl) := by
  have HB0 := Lib.hid hb
  clear hb
  have C := Lib.hid (rtcheck_any ⟨false, true, a, z, i, l, 0, b, f⟩ A bl.length c)
  rw [hc] at C
  have CF := Lib.hid (bit_any a 64)
  have hg : fl a 64 ≤ 64 := by unfold fl; split <;> omega
  generalize fl a 64 = g at *
  obtain ⟨y, hy⟩ : ∃ y, y = 128 + g := ⟨_, rfl⟩
  have hwy : IntKind.u8.wrap (128 + (g : Int)) = (y : Int) := by rw [IntKind.wrap_u8]; omega
  have hy255 : y ≤ 255 := by omega
  obtain ⟨x, hx⟩ : ∃ x, x = z + i * 8192 + l * 262144 := ⟨_, rfl⟩
  have hx23 : x ≤ 8388607 := by omega
  have hwx := wr64 (show x ≤ 18446744073709551615 by omega)
  rw [← hx, ← hy]
  have HX := Lib.hid (show (z : Int) + (i : Int) * 8192 + (l : Int) * 262144 = (x : Int) by omega)
  clear hx hy
  generalize hnn : bl.length = n at *
  have HN := Lib.hid hnn
  clear hnn hc
  go_enter Try.func17, Try.ntmps17
  go_wp2_with fail
  refine (C.out _).mono ?_
  rintro e w1 ⟨rfl, hb1⟩
  have hbx := (low_new w ⟨false, true, a, z, i, l, 0, b, f⟩ (.slice A n c) 25).on hb1
  have hz1 := hbx.lt
  obtain ⟨e0, e1, e2, e3, e4, e5, e6, e7, e8, e9⟩ := low_box hbx
  have HX1 := Lib.hid hbx
  have HB1 := Lib.hid (one hb1)
  have HO1 := Lib.hid (OB.lit w1 0 (by omega))
  clear hb1 C hbx
  go_wp2_with fail
  refine (CF.out _).mono ?_
  rintro e w3 ⟨rfl, rfl⟩
  go_wp2_with fail
  simp only [HX.out]
  refine (num_any 3 x _ (by omega) (by omega)).mono ?_
  rintro e w4 ⟨hb4, u, rfl, hu⟩
  have HO2 := Lib.hid (OB.lit w1 y (by omega))
  have hb3 : Below w1.heap.size w1 (w1.alloc (.cells #[.int .u8 (y : Int)] 5)) := al1 _ _
  have KO := Lib.hid (own_on HO2.out hb4)
  have KB := Lib.hid (bthen hb3 hb4)
  have KX := Lib.hid (HX1.out.keep KB.out hz1)
  clear e0 e1 e2 e3 e4 e5 e6 e7 e8 e9
  obtain ⟨e0, e1, e2, e3, e4, e5, e6, e7, e8, e9⟩ := low_box KX.out
  have hz4 := KX.out.lt
  have KU := Lib.hid (BS.of_own rfl hu)
  clear hb3 hb4 hu HO1 HO2
  go_wp2_with (first
    | (at_builtin
       refine app_by _ elB rfl (.tmp 49) (.tmp 61) rfl rfl KO.out rfl KU.out ?_ ?_ ?_
       (case refine_1 => simp [le_length])
       (case refine_2 => exact KB.out.size)
       intro v6 w6 hown6 hb6
       have LB := Lib.hid (show Below w1.heap.size w1 w6 from KB.out.trans hb6)
       have LO := Lib.hid hown6
       have LX := Lib.hid (HX1.out.keep LB.out hz1)
       have LL := Lib.hid (show ([UInt8.ofNat y] ++ le 3 x).length + bl.length ≤ 140737488355328 by have := HN.out; simp [le_length]; omega)
       clear e0 e1 e2 e3 e4 e5 e6 e7 e8 e9
       obtain ⟨e0, e1, e2, e3, e4, e5, e6, e7, e8, e9⟩ := low_box LX.out
       have hz6 := LX.out.lt
       clear hb6 hown6)
    | (at_builtin
       refine app_by _ elB rfl (.tmp 73) (.tmp 75) rfl rfl LO.out rfl (HB0.out.on (bthen HB1.out LB.out)) ?_ ?_ ?_
       (case refine_1 => exact LL.out)
       (case refine_2 => exact LB.out.size)
       intro v9 w9 hown9 hb9)
    )
  go_wp2
  go_ret2
  refine ⟨bthen HB1.out (LB.out.trans hb9), v9, rfl, ?_⟩
  have hq : OB w9 w.heap.size v9 _ := own_base hown9 HB1.out.size
  simpa [fieldB, le_one] using hq

set_option maxRecDepth 100000 in
set_option maxHeartbeats 4000000 in
theorem rtencode_P (a : Bool) (z i l : Int) (b : Nat) (f : Bool) (bl : List UInt8) (A : Option Addr) (c : Nat) (hc : chkL ⟨false, false, a, z, i, l, 0, b, f⟩ bl.length = 0)  (w : World) (hb : BS w w.heap.size (.slice A bl.length c) bl) (hl : bl.length ≤ 15) : Calls Try.prog 17 #[lowC false false a z i l 0 b f (.slice A bl.length c)] w fun e w' => Below w.heap.size w w' ∧ ∃ v, e = .returned (.tuple #[v, .int .i64 0]) ∧ OB w' w.heap.size v (fieldB [(1, fl a 64)] ++ bl) := by
  have HB0 := Lib.hid hb
  clear hb
  have C := Lib.hid (rtcheck_any ⟨false, false, a, z, i, l, 0, b, f⟩ A bl.length c)
  rw [hc] at C
  have CF := Lib.hid (bit_any a 64)
  have hg : fl a 64 ≤ 64 := by unfold fl; split <;> omega
  generalize fl a 64 = g at *
  have hwg : IntKind.u8.wrap (g : Int) = (g : Int) := by rw [IntKind.wrap_u8]; omega
  generalize hnn : bl.length = n at *
  have HN := Lib.hid hnn
  clear hnn hc
  go_enter Try.func17, Try.ntmps17
  go_wp2_with fail
  refine (C.out _).mono ?_
  rintro e w1 ⟨rfl, hb1⟩
  have hbx := (low_new w ⟨false, false, a, z, i, l, 0, b, f⟩ (.slice A n c) 25).on hb1
  have hz1 := hbx.lt
  obtain ⟨e0, e1, e2, e3, e4, e5, e6, e7, e8, e9⟩ := low_box hbx
  have HX1 := Lib.hid hbx
  have HB1 := Lib.hid (one hb1)
  have HO1 := Lib.hid (OB.lit w1 0 (by omega))
  clear hb1 C hbx
  go_wp2_with fail
  refine (CF.out _).mono ?_
  rintro e w3 ⟨rfl, rfl⟩
  have KO := Lib.hid (OB.lit w1 g (by omega))
  have KB := Lib.hid (al1 w1 (.cells #[.int .u8 (g : Int)] 5))
  have KX := Lib.hid (HX1.out.keep KB.out hz1)
  obtain ⟨f0, f1, f2, f3, f4, f5, f6, f7, f8, f9⟩ := low_box KX.out
  go_wp2_with (first
    | (at_builtin
       refine app_by _ elB rfl (.tmp 73) (.tmp 75) rfl rfl KO.out rfl (HB0.out.on (bthen HB1.out KB.out)) ?_ ?_ ?_
       (case refine_1 => have := HN.out; simp; omega)
       (case refine_2 => exact KB.out.size)
       intro v9 w9 hown9 hb9)
    )
  go_wp2
  go_ret2
  refine ⟨bthen HB1.out (KB.out.trans hb9), v9, rfl, ?_⟩
  have hq : OB w9 w.heap.size v9 _ := own_base hown9 HB1.out.size
  simpa [fieldB, le_one] using hq


theorem rest_true {s a : Bool} {z i l o : Int} {b : Nat} {f : Bool} {n : Nat} (h : restP ⟨true, s, a, z, i, l, o, b, f⟩ n = true) : s = false := by
  rw [restP_used, Bool.and_eq_true] at h
  exact (used_true (of_decide_eq_true h.1)).2.2
theorem rest_false {s a : Bool} {z i l o : Int} {b : Nat} {f : Bool} {n : Nat} (h : restP ⟨false, s, a, z, i, l, o, b, f⟩ n = true) : o = 0 := by
  rw [restP_used, Bool.and_eq_true] at h
  have h1 := of_decide_eq_true h.1
  rcases s with _ | _
  · rw [show usedL ⟨false, false, a, z, i, l, o, b, f⟩ = ⟨false, false, a, 0, 0, 0, 0, 0, false⟩ from rfl] at h1
    injection h1
  · rw [show usedL ⟨false, true, a, z, i, l, o, b, f⟩ = ⟨false, true, a, z, i, l, 0, 0, false⟩ from rfl] at h1
    injection h1
/-- The reference's Encode returns the bytes of a PDU, or its error. -/
theorem rtencode_any (p : Low) (hbk : p.blk < 4294967296) (bl : List UInt8) (v : Value) (w : World) (hb : BS w w.heap.size v bl) : Calls Try.prog 17 #[lowV p v] w (LEncPost w p bl) := by
  obtain ⟨A, c, rfl, _⟩ := id hb
  by_cases hc : chkL p bl.length = 0
  · have hi := low_is hc
    obtain ⟨h1, h2, h3, h4, h5, h6, _⟩ := hi
    obtain ⟨ct, s, a, z, i, l, o, b, f⟩ := p
    obtain ⟨z, rfl⟩ := Int.eq_ofNat_of_zero_le h1.1
    rcases ct with _ | _
    · obtain rfl := rest_false h5
      rcases s with _ | _
      · exact (rtencode_P a z i l b f bl A c hc w hb h6).mono fun e w' hh => enc_ok hc rfl hh
      · obtain ⟨i, rfl⟩ := Int.eq_ofNat_of_zero_le h3.1
        obtain ⟨l, rfl⟩ := Int.eq_ofNat_of_zero_le h2.1
        simp only at h1 h2 h3
        exact (rtencode_S a z i l b f bl A c hc (by omega) (by omega) (by omega) w hb h6).mono fun e w' hh => enc_ok hc rfl hh
    · obtain rfl := rest_true h5
      by_cases ho : o = 0
      · subst ho
        simp only at h1
        exact (rtencode_A false a z i l b f bl A c hc (by omega) hbk w hb h6).mono fun e w' hh => enc_ok hc rfl hh
      · have h7 := h4 rfl
        obtain ⟨o, rfl⟩ := Int.eq_ofNat_of_zero_le h7.1
        have hA : ((o : Int) == 0) = false := by simpa using ho
        simp only at h7
        exact (rtencode_C a z i l o b f bl A c hc hA (by omega) w hb h6).mono fun e w' hh => enc_ok hc (by unfold headN isA; rw [hA]; rfl) hh
  · exact (rtencode_bad p A bl.length c hc w).mono fun e w' hh => ⟨hh.2, fun h => absurd h hc, fun _ => hh.1⟩
end Go.Proofs.Ytkpjinkkjbljkaa
