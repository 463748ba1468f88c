/- The walk of lives of the law of layer 2: it returns true. -/
import Derived.Test.YthgpmedldnnhpaaLaw02a
namespace Go.Proofs.Ythgpmedldnnhpaa
open Go.RowKit

set_option maxRecDepth 100000 in
set_option maxHeartbeats 2000000 in
theorem lives02 (w : World) : Calls Try.prog 11 #[] w fun e w' => e = .returned (.bool true) ∧ Below w.heap.size w w' := by
  go_enter Try.func11, Try.ntmps11
  go_wp2_with fail
  have a1 : Sl (w.alloc (.cells #[.int .i64 2, .int .u64 258, .int .i64 1, .int .u64 7] 47)) (w.alloc (.cells #[.int .i64 2, .int .u64 258, .int .i64 1, .int .u64 7] 47)).heap.size 2 (.slice (some ⟨w.heap.size, 0, none⟩) 2 2) 2 (flds [(2, 258), (1, 7)]) := (Sl.lit w #[.int .i64 2, .int .u64 258, .int .i64 1, .int .u64 7] 47 (size := 2) 2 rfl (by simp [maxLen])).more (by simp)
  refine (put_v _ _ [(2, 258), (1, 7)] (by decide) (by decide) a1).mono ?_
  rintro e w1 hp
  obtain ⟨hb1, v1, rfl, hv1⟩ := hp.ok (ys := [2, 1, 7]) (by decide)
  have HB1 := Lib.hid (one hb1)
  have V1 := Lib.hid (BS.of_own rfl hv1)
  clear a1 hp hb1 hv1
  go_wp2_with fail
  refine (take_v _ _ _ [2, 1, 7, 9] [2, 1] ((bs_lit w1 [2, 1, 7, 9] _ _ 4 _ rfl rfl rfl (by simp [maxLen])).on (al1 _ _)) (sl_lit _ _ (ints [2, 1]) _ 1 2 _ (by simp) rfl rfl (by simp [maxLen])) (by simp) (by simp)).mono ?_
  rintro e w2 ⟨hb2, ht, _⟩
  obtain ⟨v2, u2, rfl, hv2, hu2, _⟩ := ht (by decide)
  have hB2 := two hb2
  have V1' := Lib.hid (V1.out.on hB2)
  have V2 := Lib.hid (Sl.of_own hv2)
  have U2 := Lib.hid (BS.of_own rfl hu2)
  have HB2 := Lib.hid (bthen HB1.out hB2)
  clear V1 hb2 ht hv2 hu2 hB2
  go_wp2_with fail
  refine (unhex_any _ _ (by decide)).mono ?_
  rintro e w3 hp
  obtain ⟨hb3, v3, rfl, hv3⟩ := hp.ok (ys := [10, 255]) (by decide)
  have V1 := Lib.hid (V1'.out.on hb3)
  have V2' := Lib.hid (V2.out.on hb3)
  have U2' := Lib.hid (U2.out.on hb3)
  have V3 := Lib.hid (BS.of_own rfl hv3)
  have HB3 := Lib.hid (bthen HB2.out hb3)
  clear V1' V2 U2 hp hb3 hv3
  go_wp2_with fail
  refine (same_b _ _ _ [2, 1, 7] [2, 1, 7] (V1.out.on (al1 _ _)) (bs_lit w3 [2, 1, 7] #[.int .u8 2, .int .u8 1, .int .u8 7] _ 3 _ rfl rfl rfl (by simp [maxLen]))).mono ?_
  rintro e w4 ⟨rfl, hb⟩
  have hB4 := one hb
  have V2 := Lib.hid (V2'.out.on hB4)
  have U2 := Lib.hid (U2'.out.on hB4)
  have V3' := Lib.hid (V3.out.on hB4)
  have HB4 := Lib.hid (bthen HB3.out hB4)
  clear V1 V2' U2' V3 hb hB4
  go_wp2_with fail
  refine (samenum_b _ _ _ [258, 7] [258, 7] (V2.out.on (al1 _ _)) (sl_lit w4 #[.int .u64 258, .int .u64 7] (nums [258, 7]) _ 1 2 _ rfl rfl rfl (by simp [maxLen]))).mono ?_
  rintro e w5 ⟨rfl, hb⟩
  have hB5 := one hb
  have U2' := Lib.hid (U2.out.on hB5)
  have V3 := Lib.hid (V3'.out.on hB5)
  have HB5 := Lib.hid (bthen HB4.out hB5)
  clear V2 U2 V3' hb hB5
  go_wp2_with fail
  refine (same_b _ _ _ [9] [9] (U2'.out.on (al1 _ _)) (bs_lit w5 [9] #[.int .u8 9] _ 1 _ rfl rfl rfl (by simp [maxLen]))).mono ?_
  rintro e w6 ⟨rfl, hb⟩
  have hB6 := one hb
  have V3' := Lib.hid (V3.out.on hB6)
  have HB6 := Lib.hid (bthen HB5.out hB6)
  clear U2' V3 hb hB6
  go_wp2_with fail
  refine (hex_v _ _ [10, 255] (bs_lit w6 [10, 255] #[.int .u8 10, .int .u8 255] _ 2 _ rfl rfl rfl (by simp [maxLen])) (by simp)).mono ?_
  rintro e w7 ⟨hb, rfl⟩
  have hB7 := one hb
  have V3 := Lib.hid (V3'.out.on hB7)
  have HB7 := Lib.hid (bthen HB6.out hB7)
  have hh : hexS [10, 255] = [48, 97, 102, 102] := by decide
  rw [hh]
  clear V3' hb hB7 hh
  go_wp2_with fail
  refine (same_b _ _ _ [10, 255] [10, 255] (V3.out.on (al1 _ _)) (bs_lit w7 [10, 255] #[.int .u8 10, .int .u8 255] _ 2 _ rfl rfl rfl (by simp [maxLen]))).mono ?_
  rintro e w8 ⟨rfl, hb⟩
  have HB8 := Lib.hid (bthen HB7.out (one hb))
  clear V3 hb
  go_wp2_with fail
  refine (xor_v _ _ _ [255, 15] [15, 255, 1] ((bs_lit w8 [255, 15] #[.int .u8 255, .int .u8 15] 5 2 _ rfl rfl rfl (by simp [maxLen])).on (al1 _ _)) (bs_lit _ [15, 255, 1] #[.int .u8 15, .int .u8 255, .int .u8 1] _ 3 _ (by simp) rfl rfl (by simp [maxLen])) (by simp) (by simp)).mono ?_
  rintro e w9 ⟨hb, v9, rfl, hv9⟩
  have V9 := Lib.hid (BS.of_own rfl hv9)
  have HB9 := Lib.hid (bthen HB8.out (two hb))
  clear hb hv9
  go_wp2_with fail
  refine (same_b _ _ _ (xorS [255, 15] [15, 255, 1]) [240, 240] (V9.out.on (al1 _ _)) (bs_lit w9 [240, 240] #[.int .u8 240, .int .u8 240] _ 2 _ rfl rfl rfl (by simp [maxLen]))).mono ?_
  rintro e w10 ⟨rfl, hb⟩
  have HB10 := Lib.hid (bthen HB9.out (one hb))
  have hh : decide (xorS [255, 15] [15, 255, 1] = [240, 240]) = true := by decide
  rw [hh]
  clear V9 hb hh
  go_wp2_with fail
  have p1 : BS ((w10.alloc (.cells #[.int .u8 1] 5)).alloc (.cells #[.int .u8 2, .int .u8 3] 5)) ((w10.alloc (.cells #[.int .u8 1] 5)).alloc (.cells #[.int .u8 2, .int .u8 3] 5)).heap.size (.slice (some ⟨w10.heap.size, 0, none⟩) 1 1) [1] := (bs_lit w10 [1] #[.int .u8 1] _ 1 _ rfl rfl rfl (by simp [maxLen])).on (al1 _ _)
  have p2 : BS ((w10.alloc (.cells #[.int .u8 1] 5)).alloc (.cells #[.int .u8 2, .int .u8 3] 5)) ((w10.alloc (.cells #[.int .u8 1] 5)).alloc (.cells #[.int .u8 2, .int .u8 3] 5)).heap.size (.slice (some ⟨w10.heap.size + 1, 0, none⟩) 2 2) [2, 3] := bs_lit _ [2, 3] #[.int .u8 2, .int .u8 3] _ 2 _ (by simp) rfl rfl (by simp [maxLen])
  refine (join_v _ _ [.slice (some ⟨w10.heap.size, 0, none⟩) 1 1, .slice none 0 0, .slice (some ⟨w10.heap.size + 1, 0, none⟩) 2 2] [[1], [], [2, 3]] (sl_lit _ _ _ _ 1 3 _ (by simp) rfl rfl (by simp [maxLen])) (parts_cons (p1.on (al1 _ _)) (parts_cons (BS.nil _ _) (parts_cons (p2.on (al1 _ _)) (parts_nil _ _)))) (by simp) (by simp)).mono ?_
  rintro e w11 ⟨hb, v11, rfl, hv11⟩
  have V11 := Lib.hid (BS.of_own rfl hv11)
  have HB11 := Lib.hid (bthen HB10.out ((al3 _ _ _ _).trans (hb.mono (by simp; omega))))
  clear p1 p2 hb hv11
  go_wp2_with fail
  refine (same_b _ _ _ [[1], [], [2, 3]].flatten [1, 2, 3] (V11.out.on (al1 _ _)) (bs_lit w11 [1, 2, 3] #[.int .u8 1, .int .u8 2, .int .u8 3] _ 3 _ rfl rfl rfl (by simp [maxLen]))).mono ?_
  rintro e w12 ⟨rfl, hb⟩
  have HB12 := Lib.hid (bthen HB11.out (one hb))
  clear V11 hb
  go_wp2_with fail
  go_ret
  exact ⟨rfl, HB12.out⟩
end Go.Proofs.Ythgpmedldnnhpaa
