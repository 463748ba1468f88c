/- The walk of transport.access. No condition. -/
import Derived.Test.YtkpjinkkjbljkaaTr9
namespace Go.Proofs.Ytkpjinkkjbljkaa
open Go.RowKit

theorem bits_byte (x : Nat) (h : x ≤ 255) : (bits BinOp.and IntKind.u8 (x : Int) 128 != 0) = decide (128 ≤ x) ∧ (bits BinOp.and IntKind.u8 (x : Int) 64 != 0) = decide (64 ≤ x % 128) ∧ (bits BinOp.andNot IntKind.u8 (x : Int) 192 != 0) = decide (x % 64 ≠ 0) := by
  have H : ∀ y : Fin 256, (bits BinOp.and IntKind.u8 (y.val : Int) 128 != 0) = decide (128 ≤ y.val) ∧ (bits BinOp.and IntKind.u8 (y.val : Int) 64 != 0) = decide (64 ≤ y.val % 128) ∧ (bits BinOp.andNot IntKind.u8 (y.val : Int) 192 != 0) = decide (y.val % 64 ≠ 0) := by decide +kernel
  exact H ⟨x, by omega⟩
/-- The first byte of an access payload with no unknown bits. -/
theorem b0_four (l : List UInt8) (h : b0 l % 64 = 0) : b0 l = 0 ∨ b0 l = 64 ∨ b0 l = 128 ∨ b0 l = 192 := by have := b0_lt l; omega

set_option maxRecDepth 100000 in
set_option maxHeartbeats 4000000 in
theorem access_bits (l : List UInt8) (hl : 0 < l.length) (hk : b0 l % 64 ≠ 0) (v : Value) (w : World) (hb : BS w w.heap.size v l) : Calls Try.prog 38 #[v] w (PrePost w (aE l) (aL l) (aB l)) := by
  obtain ⟨bb, o, c, rfl, hB, hnc, _, h0⟩ := first_cell hb hl
  have h255 := b0_lt l
  rw [show aE l = 2 by unfold aE; rw [if_pos hk]]
  generalize aL l = q
  generalize aB l = k
  generalize b0 l = x at *
  obtain ⟨b1, b2, b3⟩ := bits_byte x h255
  rw [decide_eq_true hk] at b3
  generalize decide (128 ≤ x) = s at *
  generalize decide (64 ≤ x % 128) = a at *
  generalize l.length = n at *
  clear hb h255 hk
  go_enter Try.func38, Try.ntmps38
  go_wp2_with fail
  go_region_held3 (fun w' => w'.cell? ⟨bb, o, none⟩ = some (.int .u8 (x : Int))) (go_keep) (fail)
  go_wp2_with fail
  refine bodyPost_ret (res_low rfl _ _ w.heap.size ⟨false, s, a, 0, 0, 0, 0, 0, false⟩ (.slice none 0 0) rfl ?_) rfl ⟨?_, ⟨false, s, a, 0, 0, 0, 0, 0, false⟩, none, 0, 0, rfl, fun h => absurd h (by decide)⟩
  · exact ((Box.new w _ _).alloc _).drew
  · exact (al2 _ _ _).drew

set_option maxRecDepth 100000 in
set_option maxHeartbeats 4000000 in
theorem access_0 (l : List UInt8) (hl : 0 < l.length) (hlm : l.length ≤ 140737488355328) (hk : b0 l = 0) (v : Value) (w : World) (hb : BS w w.heap.size v l) : Calls Try.prog 38 #[v] w (PrePost w (aE l) (aL l) (aB l)) := by
  obtain ⟨bb, o, c, rfl, hB, hnc, _, h0⟩ := first_cell hb hl
  have HC := Lib.hid (rest_cut hb hl)
  rw [show aE l = 0 by unfold aE; rw [hk]; rfl, show aL l = ⟨false, false, false, 0, 0, 0, 0, 0, false⟩ by unfold aL; rw [hk]; rfl, show aB l = l.drop 1 by unfold aB; rw [hk]; rfl]
  rw [hk] at h0
  have hdl : (l.drop 1).length = l.length - 1 := List.length_drop ..
  have hdm : (l.drop 1).length ≤ 140737488355328 := by omega
  generalize hnn : l.length = n at *
  have HN := Lib.hid hnn
  have HDL := Lib.hid hdl
  have HDM := Lib.hid hdm
  generalize l.drop 1 = k at *
  have b1 : (bits BinOp.and IntKind.u8 0 128 != 0) = false := by decide +kernel
  have b2 : (bits BinOp.and IntKind.u8 0 64 != 0) = false := by decide +kernel
  have b3 : (bits BinOp.andNot IntKind.u8 0 192 != 0) = false := by decide +kernel
  clear hb hk hnn hdl hdm hlm
  by_cases hc : c = 1
  · subst hc
    rw [if_pos rfl] at HC
    obtain rfl : n = 1 := by omega
    go_enter Try.func38, Try.ntmps38
    go_wp2_with fail
    go_region_held3 (fun w' => w'.cell? ⟨bb, o, none⟩ = some (.int .u8 0)) (go_keep) (fail)
    go_wp2_with fail
    obtain ⟨W, hW⟩ : ∃ W, W = ((w.alloc (.cells #[.bool false, .bool false, .bool false, .int .i64 0, .int .i64 0, .int .i64 0, .int .i64 0, .int .u32 0, .bool false, .slice none 0 0] 25)).alloc (.cells #[.bool false, .bool false, .bool false, .int .i64 0, .int .i64 0, .int .i64 0, .int .i64 0, .int .u32 0, .bool false, .slice none 0 0] 25)).drew := ⟨_, rfl⟩
    have hA : Below w.heap.size w W := by rw [hW]; exact (al2 _ _ _).drew
    have hbr : Box W w.heap.size (lowCs low0 (.slice none 0 0)) := by rw [hW]; exact ((Box.new _ _ _).alloc _).drew
    have hbl : Box W (w.heap.size + 1) (lowCs ⟨false, false, false, 0, 0, 0, 0, 0, false⟩ (.slice none 0 0)) := by rw [hW]; have h := Box.new (w.alloc (.cells #[.bool false, .bool false, .bool false, .int .i64 0, .int .i64 0, .int .i64 0, .int .i64 0, .int .u32 0, .bool false, .slice none 0 0] 25)) #[.bool false, .bool false, .bool false, .int .i64 0, .int .i64 0, .int .i64 0, .int .i64 0, .int .u32 0, .bool false, .slice none 0 0] 25; rw [World.size_alloc] at h; exact h.drew
    have hsz : w.heap.size + 1 + 1 = W.heap.size := by rw [hW]; simp
    rw [show ((((w.alloc (.cells #[.bool false, .bool false, .bool false, .int .i64 0, .int .i64 0, .int .i64 0, .int .i64 0, .int .u32 0, .bool false, .slice none 0 0] 25)).alloc (.cells #[.bool false, .bool false, .bool false, .int .i64 0, .int .i64 0, .int .i64 0, .int .i64 0, .int .u32 0, .bool false, .slice none 0 0] 25)).alloc (.cells #[.slice (some ⟨bb, o, none⟩) 0 0] 23)).drew : World) = W.alloc (.cells #[.slice (some ⟨bb, o, none⟩) 0 0] 23) by rw [hW]; rfl, hsz]
    clear hW
    refine (join1 _ k W (HC.out.on hA) HDM.out _).mono ?_
    rintro e w3 ⟨hb3, u, rfl, hu⟩
    obtain ⟨A3, c3, rfl⟩ := own_slice hu
    have hbr3 := hbr.on hb3
    have hbl3 := hbl.on hb3
    have HR3 := Lib.hid hbr3
    have HU3 := Lib.hid hu
    have HB3 := Lib.hid (hA.trans (hb3.mono hA.size))
    obtain ⟨e0, e1, e2, e3, e4, e5, e6, e7, e8, e9⟩ := low_box hbl3
    obtain ⟨d0, d1, d2, d3, d4, d5, d6, d7, d8, d9⟩ := low_box hbr3
    have z1 := hbr3.lt
    have z2 := hbl3.lt
    have f9 := hbl3.free 9
    obtain ⟨g0, g1, g2, g3, g4, g5, g6, g7, g8, g9⟩ := low_free hbr3
    dsimp only [low0] at d0 d1 d2 d3 d4 d5 d6 d7 d8 e0 e1 e2 e3 e4 e5 e6 e7 e8
    have hz : w.heap.size + 1 < W.heap.size := by omega
    clear hb3 hu hbr hbl hbr3 hbl3 hA hsz
    go_wp2_with fail
    obtain ⟨q1, q2, q3⟩ := low_ret (w := w) ⟨false, false, false, 0, 0, 0, 0, 0, false⟩ (HR3.out.far (p := ⟨w.heap.size + 1, 9, none⟩) (by simp) (.slice A3 k.length c3)) rfl (HB3.out.setCell (p := ⟨w.heap.size + 1, 9, none⟩) (by simp) (.slice A3 k.length c3)) (own_away HU3.out (p := ⟨w.heap.size + 1, 9, none⟩) hz (.slice A3 k.length c3)) (by omega)
    exact bodyPost_ret (res_low rfl _ _ w.heap.size ⟨false, false, false, 0, 0, 0, 0, 0, false⟩ (.slice A3 k.length c3) rfl q1) rfl ⟨q2, _, A3, k.length, c3, rfl, fun _ => ⟨rfl, rfl, q3⟩⟩
  · rw [if_neg hc] at HC
    go_enter Try.func38, Try.ntmps38
    go_wp2_with fail
    go_region_held3 (fun w' => w'.cell? ⟨bb, o, none⟩ = some (.int .u8 0)) (go_keep) (fail)
    go_wp2_with fail
    obtain ⟨W, hW⟩ : ∃ W, W = ((w.alloc (.cells #[.bool false, .bool false, .bool false, .int .i64 0, .int .i64 0, .int .i64 0, .int .i64 0, .int .u32 0, .bool false, .slice none 0 0] 25)).alloc (.cells #[.bool false, .bool false, .bool false, .int .i64 0, .int .i64 0, .int .i64 0, .int .i64 0, .int .u32 0, .bool false, .slice none 0 0] 25)).drew := ⟨_, rfl⟩
    have hA : Below w.heap.size w W := by rw [hW]; exact (al2 _ _ _).drew
    have hbr : Box W w.heap.size (lowCs low0 (.slice none 0 0)) := by rw [hW]; exact ((Box.new _ _ _).alloc _).drew
    have hbl : Box W (w.heap.size + 1) (lowCs ⟨false, false, false, 0, 0, 0, 0, 0, false⟩ (.slice none 0 0)) := by rw [hW]; have h := Box.new (w.alloc (.cells #[.bool false, .bool false, .bool false, .int .i64 0, .int .i64 0, .int .i64 0, .int .i64 0, .int .u32 0, .bool false, .slice none 0 0] 25)) #[.bool false, .bool false, .bool false, .int .i64 0, .int .i64 0, .int .i64 0, .int .i64 0, .int .u32 0, .bool false, .slice none 0 0] 25; rw [World.size_alloc] at h; exact h.drew
    have hsz : w.heap.size + 1 + 1 = W.heap.size := by rw [hW]; simp
    rw [show ((((w.alloc (.cells #[.bool false, .bool false, .bool false, .int .i64 0, .int .i64 0, .int .i64 0, .int .i64 0, .int .u32 0, .bool false, .slice none 0 0] 25)).alloc (.cells #[.bool false, .bool false, .bool false, .int .i64 0, .int .i64 0, .int .i64 0, .int .i64 0, .int .u32 0, .bool false, .slice none 0 0] 25)).alloc (.cells #[.slice (some ⟨bb, o + 1, none⟩) (n - 1) (c - 1)] 23)).drew : World) = W.alloc (.cells #[.slice (some ⟨bb, o + 1, none⟩) (n - 1) (c - 1)] 23) by rw [hW]; rfl, hsz]
    clear hW
    refine (join1 _ k W (HC.out.on hA) HDM.out _).mono ?_
    rintro e w3 ⟨hb3, u, rfl, hu⟩
    obtain ⟨A3, c3, rfl⟩ := own_slice hu
    have hbr3 := hbr.on hb3
    have hbl3 := hbl.on hb3
    have HR3 := Lib.hid hbr3
    have HU3 := Lib.hid hu
    have HB3 := Lib.hid (hA.trans (hb3.mono hA.size))
    obtain ⟨e0, e1, e2, e3, e4, e5, e6, e7, e8, e9⟩ := low_box hbl3
    obtain ⟨d0, d1, d2, d3, d4, d5, d6, d7, d8, d9⟩ := low_box hbr3
    have z1 := hbr3.lt
    have z2 := hbl3.lt
    have f9 := hbl3.free 9
    obtain ⟨g0, g1, g2, g3, g4, g5, g6, g7, g8, g9⟩ := low_free hbr3
    dsimp only [low0] at d0 d1 d2 d3 d4 d5 d6 d7 d8 e0 e1 e2 e3 e4 e5 e6 e7 e8
    have hz : w.heap.size + 1 < W.heap.size := by omega
    clear hb3 hu hbr hbl hbr3 hbl3 hA hsz
    go_wp2_with fail
    obtain ⟨q1, q2, q3⟩ := low_ret (w := w) ⟨false, false, false, 0, 0, 0, 0, 0, false⟩ (HR3.out.far (p := ⟨w.heap.size + 1, 9, none⟩) (by simp) (.slice A3 k.length c3)) rfl (HB3.out.setCell (p := ⟨w.heap.size + 1, 9, none⟩) (by simp) (.slice A3 k.length c3)) (own_away HU3.out (p := ⟨w.heap.size + 1, 9, none⟩) hz (.slice A3 k.length c3)) (by omega)
    exact bodyPost_ret (res_low rfl _ _ w.heap.size ⟨false, false, false, 0, 0, 0, 0, 0, false⟩ (.slice A3 k.length c3) rfl q1) rfl ⟨q2, _, A3, k.length, c3, rfl, fun _ => ⟨rfl, rfl, q3⟩⟩

set_option maxRecDepth 100000 in
set_option maxHeartbeats 4000000 in
theorem access_64 (l : List UInt8) (hl : 0 < l.length) (hlm : l.length ≤ 140737488355328) (hk : b0 l = 64) (v : Value) (w : World) (hb : BS w w.heap.size v l) : Calls Try.prog 38 #[v] w (PrePost w (aE l) (aL l) (aB l)) := by
  obtain ⟨bb, o, c, rfl, hB, hnc, _, h0⟩ := first_cell hb hl
  have HC := Lib.hid (rest_cut hb hl)
  rw [show aE l = 0 by unfold aE; rw [hk]; rfl, show aL l = ⟨false, false, true, 0, 0, 0, 0, 0, false⟩ by unfold aL; rw [hk]; rfl, show aB l = l.drop 1 by unfold aB; rw [hk]; rfl]
  rw [hk] at h0
  have hdl : (l.drop 1).length = l.length - 1 := List.length_drop ..
  have hdm : (l.drop 1).length ≤ 140737488355328 := by omega
  generalize hnn : l.length = n at *
  have HN := Lib.hid hnn
  have HDL := Lib.hid hdl
  have HDM := Lib.hid hdm
  generalize l.drop 1 = k at *
  have b1 : (bits BinOp.and IntKind.u8 64 128 != 0) = false := by decide +kernel
  have b2 : (bits BinOp.and IntKind.u8 64 64 != 0) = true := by decide +kernel
  have b3 : (bits BinOp.andNot IntKind.u8 64 192 != 0) = false := by decide +kernel
  clear hb hk hnn hdl hdm hlm
  by_cases hc : c = 1
  · subst hc
    rw [if_pos rfl] at HC
    obtain rfl : n = 1 := by omega
    go_enter Try.func38, Try.ntmps38
    go_wp2_with fail
    go_region_held3 (fun w' => w'.cell? ⟨bb, o, none⟩ = some (.int .u8 64)) (go_keep) (fail)
    go_wp2_with fail
    obtain ⟨W, hW⟩ : ∃ W, W = ((w.alloc (.cells #[.bool false, .bool false, .bool false, .int .i64 0, .int .i64 0, .int .i64 0, .int .i64 0, .int .u32 0, .bool false, .slice none 0 0] 25)).alloc (.cells #[.bool false, .bool false, .bool true, .int .i64 0, .int .i64 0, .int .i64 0, .int .i64 0, .int .u32 0, .bool false, .slice none 0 0] 25)).drew := ⟨_, rfl⟩
    have hA : Below w.heap.size w W := by rw [hW]; exact (al2 _ _ _).drew
    have hbr : Box W w.heap.size (lowCs low0 (.slice none 0 0)) := by rw [hW]; exact ((Box.new _ _ _).alloc _).drew
    have hbl : Box W (w.heap.size + 1) (lowCs ⟨false, false, true, 0, 0, 0, 0, 0, false⟩ (.slice none 0 0)) := by rw [hW]; have h := Box.new (w.alloc (.cells #[.bool false, .bool false, .bool false, .int .i64 0, .int .i64 0, .int .i64 0, .int .i64 0, .int .u32 0, .bool false, .slice none 0 0] 25)) #[.bool false, .bool false, .bool true, .int .i64 0, .int .i64 0, .int .i64 0, .int .i64 0, .int .u32 0, .bool false, .slice none 0 0] 25; rw [World.size_alloc] at h; exact h.drew
    have hsz : w.heap.size + 1 + 1 = W.heap.size := by rw [hW]; simp
    rw [show ((((w.alloc (.cells #[.bool false, .bool false, .bool false, .int .i64 0, .int .i64 0, .int .i64 0, .int .i64 0, .int .u32 0, .bool false, .slice none 0 0] 25)).alloc (.cells #[.bool false, .bool false, .bool true, .int .i64 0, .int .i64 0, .int .i64 0, .int .i64 0, .int .u32 0, .bool false, .slice none 0 0] 25)).alloc (.cells #[.slice (some ⟨bb, o, none⟩) 0 0] 23)).drew : World) = W.alloc (.cells #[.slice (some ⟨bb, o, none⟩) 0 0] 23) by rw [hW]; rfl, hsz]
    clear hW
    refine (join1 _ k W (HC.out.on hA) HDM.out _).mono ?_
    rintro e w3 ⟨hb3, u, rfl, hu⟩
    obtain ⟨A3, c3, rfl⟩ := own_slice hu
    have hbr3 := hbr.on hb3
    have hbl3 := hbl.on hb3
    have HR3 := Lib.hid hbr3
    have HU3 := Lib.hid hu
    have HB3 := Lib.hid (hA.trans (hb3.mono hA.size))
    obtain ⟨e0, e1, e2, e3, e4, e5, e6, e7, e8, e9⟩ := low_box hbl3
    obtain ⟨d0, d1, d2, d3, d4, d5, d6, d7, d8, d9⟩ := low_box hbr3
    have z1 := hbr3.lt
    have z2 := hbl3.lt
    have f9 := hbl3.free 9
    obtain ⟨g0, g1, g2, g3, g4, g5, g6, g7, g8, g9⟩ := low_free hbr3
    dsimp only [low0] at d0 d1 d2 d3 d4 d5 d6 d7 d8 e0 e1 e2 e3 e4 e5 e6 e7 e8
    have hz : w.heap.size + 1 < W.heap.size := by omega
    clear hb3 hu hbr hbl hbr3 hbl3 hA hsz
    go_wp2_with fail
    obtain ⟨q1, q2, q3⟩ := low_ret (w := w) ⟨false, false, true, 0, 0, 0, 0, 0, false⟩ (HR3.out.far (p := ⟨w.heap.size + 1, 9, none⟩) (by simp) (.slice A3 k.length c3)) rfl (HB3.out.setCell (p := ⟨w.heap.size + 1, 9, none⟩) (by simp) (.slice A3 k.length c3)) (own_away HU3.out (p := ⟨w.heap.size + 1, 9, none⟩) hz (.slice A3 k.length c3)) (by omega)
    exact bodyPost_ret (res_low rfl _ _ w.heap.size ⟨false, false, true, 0, 0, 0, 0, 0, false⟩ (.slice A3 k.length c3) rfl q1) rfl ⟨q2, _, A3, k.length, c3, rfl, fun _ => ⟨rfl, rfl, q3⟩⟩
  · rw [if_neg hc] at HC
    go_enter Try.func38, Try.ntmps38
    go_wp2_with fail
    go_region_held3 (fun w' => w'.cell? ⟨bb, o, none⟩ = some (.int .u8 64)) (go_keep) (fail)
    go_wp2_with fail
    obtain ⟨W, hW⟩ : ∃ W, W = ((w.alloc (.cells #[.bool false, .bool false, .bool false, .int .i64 0, .int .i64 0, .int .i64 0, .int .i64 0, .int .u32 0, .bool false, .slice none 0 0] 25)).alloc (.cells #[.bool false, .bool false, .bool true, .int .i64 0, .int .i64 0, .int .i64 0, .int .i64 0, .int .u32 0, .bool false, .slice none 0 0] 25)).drew := ⟨_, rfl⟩
    have hA : Below w.heap.size w W := by rw [hW]; exact (al2 _ _ _).drew
    have hbr : Box W w.heap.size (lowCs low0 (.slice none 0 0)) := by rw [hW]; exact ((Box.new _ _ _).alloc _).drew
    have hbl : Box W (w.heap.size + 1) (lowCs ⟨false, false, true, 0, 0, 0, 0, 0, false⟩ (.slice none 0 0)) := by rw [hW]; have h := Box.new (w.alloc (.cells #[.bool false, .bool false, .bool false, .int .i64 0, .int .i64 0, .int .i64 0, .int .i64 0, .int .u32 0, .bool false, .slice none 0 0] 25)) #[.bool false, .bool false, .bool true, .int .i64 0, .int .i64 0, .int .i64 0, .int .i64 0, .int .u32 0, .bool false, .slice none 0 0] 25; rw [World.size_alloc] at h; exact h.drew
    have hsz : w.heap.size + 1 + 1 = W.heap.size := by rw [hW]; simp
    rw [show ((((w.alloc (.cells #[.bool false, .bool false, .bool false, .int .i64 0, .int .i64 0, .int .i64 0, .int .i64 0, .int .u32 0, .bool false, .slice none 0 0] 25)).alloc (.cells #[.bool false, .bool false, .bool true, .int .i64 0, .int .i64 0, .int .i64 0, .int .i64 0, .int .u32 0, .bool false, .slice none 0 0] 25)).alloc (.cells #[.slice (some ⟨bb, o + 1, none⟩) (n - 1) (c - 1)] 23)).drew : World) = W.alloc (.cells #[.slice (some ⟨bb, o + 1, none⟩) (n - 1) (c - 1)] 23) by rw [hW]; rfl, hsz]
    clear hW
    refine (join1 _ k W (HC.out.on hA) HDM.out _).mono ?_
    rintro e w3 ⟨hb3, u, rfl, hu⟩
    obtain ⟨A3, c3, rfl⟩ := own_slice hu
    have hbr3 := hbr.on hb3
    have hbl3 := hbl.on hb3
    have HR3 := Lib.hid hbr3
    have HU3 := Lib.hid hu
    have HB3 := Lib.hid (hA.trans (hb3.mono hA.size))
    obtain ⟨e0, e1, e2, e3, e4, e5, e6, e7, e8, e9⟩ := low_box hbl3
    obtain ⟨d0, d1, d2, d3, d4, d5, d6, d7, d8, d9⟩ := low_box hbr3
    have z1 := hbr3.lt
    have z2 := hbl3.lt
    have f9 := hbl3.free 9
    obtain ⟨g0, g1, g2, g3, g4, g5, g6, g7, g8, g9⟩ := low_free hbr3
    dsimp only [low0] at d0 d1 d2 d3 d4 d5 d6 d7 d8 e0 e1 e2 e3 e4 e5 e6 e7 e8
    have hz : w.heap.size + 1 < W.heap.size := by omega
    clear hb3 hu hbr hbl hbr3 hbl3 hA hsz
    go_wp2_with fail
    obtain ⟨q1, q2, q3⟩ := low_ret (w := w) ⟨false, false, true, 0, 0, 0, 0, 0, false⟩ (HR3.out.far (p := ⟨w.heap.size + 1, 9, none⟩) (by simp) (.slice A3 k.length c3)) rfl (HB3.out.setCell (p := ⟨w.heap.size + 1, 9, none⟩) (by simp) (.slice A3 k.length c3)) (own_away HU3.out (p := ⟨w.heap.size + 1, 9, none⟩) hz (.slice A3 k.length c3)) (by omega)
    exact bodyPost_ret (res_low rfl _ _ w.heap.size ⟨false, false, true, 0, 0, 0, 0, 0, false⟩ (.slice A3 k.length c3) rfl q1) rfl ⟨q2, _, A3, k.length, c3, rfl, fun _ => ⟨rfl, rfl, q3⟩⟩
end Go.Proofs.Ytkpjinkkjbljkaa
