/- The walk of transport.access at a segment. No condition. -/
import Derived.Test.YtkpjinkkjbljkaaTr10
namespace Go.Proofs.Ytkpjinkkjbljkaa
open Go.RowKit

theorem take_seg (l : List UInt8) (h : 4 ≤ l.length) : takeE l [1, 3] = 0 := by
  show (if l.length < 4 then (3 : Int) else 0) = 0
  rw [if_neg (by omega)]
theorem takeV_seg (l : List UInt8) (h : 4 ≤ l.length) : takeV l [1, 3] 2 = [b0 l, leVal ((l.drop 1).take 3)] := by
  match l, h with
  | a :: l, h =>
    show [leVal ((a :: l).drop 0 |>.take 1), leVal (((a :: l).drop 1).take 3)] = _
    simp [leVal, b0]
theorem offs_seg : offs [1, 3] 2 = 4 := rfl

set_option maxRecDepth 100000 in
set_option maxHeartbeats 4000000 in
theorem access_128 (l : List UInt8) (hl : 0 < l.length) (hlm : l.length ≤ 140737488355328) (hk : b0 l = 128) (v : Value) (w : World) (hb : BS w w.heap.size v l) : Calls Try.prog 38 #[v] w (PrePost w (aE l) (aL l) (aB l)) := by
  obtain ⟨bb, o, c, rfl, hB, hnc, _, h0⟩ := first_cell hb hl
  have HBS := Lib.hid hb
  obtain ⟨er, her⟩ : ∃ er : Int, er = if 8388608 ≤ leVal ((l.drop 1).take 3) then 2 else 0 := ⟨_, rfl⟩
  obtain ⟨ez, hez⟩ : ∃ ez : Int, ez = if l.length < 4 then 3 else er := ⟨_, rfl⟩
  rw [show aE l = ez by unfold aE; rw [hez, her, hk]; rfl, show aL l = ⟨false, true, false, ((leVal ((l.drop 1).take 3) : Nat) : Int) % 8192, ((leVal ((l.drop 1).take 3) : Nat) : Int) / 8192 % 32, ((leVal ((l.drop 1).take 3) : Nat) : Int) / 262144, 0, 0, false⟩ by unfold aL; rw [hk]; rfl, show aB l = l.drop 4 by unfold aB; rw [hk]; rfl]
  rw [hk] at h0
  have CT := Lib.hid (fun (W : World) (v : Value) (hv : BS W W.heap.size v l) (u : Value) (hu : Sl W W.heap.size 1 u 2 (ints [1, 3])) => ttake_v v u l [1, 3] hv hu hlm (by simp))
  have HT := Lib.hid (take_seg l)
  have HV := Lib.hid (takeV_seg l)
  have hy16 := leVal_le l 1 3
  have hdl : (l.drop 4).length = l.length - 4 := List.length_drop ..
  generalize leVal ((l.drop 1).take 3) = y at *
  have HK := Lib.hid (show l.drop (offs [1, 3] 2) = l.drop 4 from rfl)
  generalize hnn : l.length = n at *
  have HN := Lib.hid hnn
  have HDL := Lib.hid hdl
  generalize l.drop 4 = k at *
  have HE := Lib.hid her
  have HEZ := Lib.hid hez
  have b1 : (bits BinOp.and IntKind.u8 128 128 != 0) = true := by decide +kernel
  have b2 : (bits BinOp.and IntKind.u8 128 64 != 0) = false := by decide +kernel
  have b3 : (bits BinOp.andNot IntKind.u8 128 192 != 0) = false := by decide +kernel
  clear hb hk hnn hdl hlm her hez
  rcases Nat.lt_or_ge n 4 with h4 | h4
  · have h4' : (n : Int) < 4 := by omega
    obtain rfl : ez = 3 := by rw [HEZ.out, if_pos h4]
    go_enter Try.func38, Try.ntmps38
    go_wp2_with fail
    go_region_held3 (fun w' => w'.cell? ⟨bb, o, none⟩ = some (.int .u8 128)) (go_keep) (fail)
    go_wp2_with fail
    refine bodyPost_ret (res_low rfl _ _ w.heap.size ⟨false, true, false, 0, 0, 0, 0, 0, false⟩ (.slice none 0 0) rfl ?_) rfl ⟨?_, ⟨false, true, false, 0, 0, 0, 0, 0, false⟩, none, 0, 0, rfl, fun h => absurd h (by decide)⟩
    · exact ((Box.new w _ _).alloc _).drew
    · exact (al2 _ _ _).drew
  · have h4' : (4 : Int) ≤ n := by omega
    have h4'' : decide ((n : Int) < 4) = false := decide_eq_false (by omega)
    obtain rfl : ez = er := by rw [HEZ.out, if_neg (by omega)]
    go_enter Try.func38, Try.ntmps38
    go_wp2_with fail
    go_region_held3 (fun w' => w'.cell? ⟨bb, o, none⟩ = some (.int .u8 128)) (go_keep) (fail)
    go_wp2_with fail
    obtain ⟨W, hW⟩ : ∃ W, W = ((w.alloc (.cells #[.bool false, .bool false, .bool false, .int .i64 0, .int .i64 0, .int .i64 0, .int .i64 0, .int .u32 0, .bool false, .slice none 0 0] 25)).alloc (.cells #[.bool false, .bool true, .bool false, .int .i64 0, .int .i64 0, .int .i64 0, .int .i64 0, .int .u32 0, .bool false, .slice none 0 0] 25)).drew := ⟨_, rfl⟩
    have hA : Below w.heap.size w W := by rw [hW]; exact (al2 _ _ _).drew
    have hbr : Box W w.heap.size (lowCs low0 (.slice none 0 0)) := by rw [hW]; exact ((Box.new _ _ _).alloc _).drew
    have hbl : Box W (w.heap.size + 1) (lowCs ⟨false, true, false, 0, 0, 0, 0, 0, false⟩ (.slice none 0 0)) := by rw [hW]; have h := Box.new (w.alloc (.cells #[.bool false, .bool false, .bool false, .int .i64 0, .int .i64 0, .int .i64 0, .int .i64 0, .int .u32 0, .bool false, .slice none 0 0] 25)) #[.bool false, .bool true, .bool false, .int .i64 0, .int .i64 0, .int .i64 0, .int .i64 0, .int .u32 0, .bool false, .slice none 0 0] 25; rw [World.size_alloc] at h; exact h.drew
    have hsz : w.heap.size + 1 + 1 = W.heap.size := by rw [hW]; simp
    rw [show ((((w.alloc (.cells #[.bool false, .bool false, .bool false, .int .i64 0, .int .i64 0, .int .i64 0, .int .i64 0, .int .u32 0, .bool false, .slice none 0 0] 25)).alloc (.cells #[.bool false, .bool true, .bool false, .int .i64 0, .int .i64 0, .int .i64 0, .int .i64 0, .int .u32 0, .bool false, .slice none 0 0] 25)).alloc (.cells #[.int .i64 1, .int .i64 3] 3)).drew : World) = W.alloc (.cells #[.int .i64 1, .int .i64 3] 3) by rw [hW]; rfl, hsz]
    clear hW
    have hbs : BS (W.alloc (.cells #[.int .i64 1, .int .i64 3] 3)) (W.alloc (.cells #[.int .i64 1, .int .i64 3] 3)).heap.size (.slice (some ⟨bb, o, none⟩) n c) l := by
      have h := (HBS.out.on hA).on (al1 _ (.cells #[.int .i64 1, .int .i64 3] 3))
      exact h
    refine (CT.out _ _ hbs _ ((Sl.lit (size := 1) W #[.int .i64 1, .int .i64 3] 3 2 rfl (by simp [maxLen])).more (by simp))).mono ?_
    rintro e w3 ⟨hb3, hok, _⟩
    obtain ⟨v3, u3, rfl, hv3, hu3, _⟩ := hok (HT.out (by omega))
    rw [show ([1, 3] : List Int).length = 2 from rfl, HV.out (by omega)] at hv3
    rw [show ([1, 3] : List Int).length = 2 from rfl, HK.out] at hu3
    obtain ⟨g, cg, rfl, hg1, hg2⟩ := own_addr hv3 (by omega)
    obtain ⟨A3, c3, rfl⟩ := own_slice hu3
    have hg1' : w.heap.size + 1 < g := by simp at hg1; omega
    have x0 := own_cell hv3 (k := 1) (u := .int .u64 (y : Int)) rfl
    have hbr3 := (hbr.alloc (.cells #[.int .i64 1, .int .i64 3] 3)).on hb3
    have hbl3 := (hbl.alloc (.cells #[.int .i64 1, .int .i64 3] 3)).on hb3
    have HR3 := Lib.hid hbr3
    have HU3 := Lib.hid (own_base hu3 (show W.heap.size ≤ _ by simp))
    have HB3 := Lib.hid (hA.trans ((one hb3).mono hA.size))
    obtain ⟨e0, e1, e2, e3, e4, e5, e6, e7, e8, e9⟩ := low_box hbl3
    obtain ⟨d0, d1, d2, d3, d4, d5, d6, d7, d8, d9⟩ := low_box hbr3
    have z1 := hbr3.lt
    have z2 := hbl3.lt
    obtain ⟨f0, f1, f2, f3, f4, f5, f6, f7, f8, f9⟩ := low_free hbl3
    obtain ⟨g0, g1, g2, g3, g4, g5, g6, g7, g8, g9⟩ := low_free hbr3
    dsimp only [low0] at d0 d1 d2 d3 d4 d5 d6 d7 d8 e0 e1 e2 e3 e4 e5 e6 e7 e8
    have hz : w.heap.size + 1 < W.heap.size := by omega
    have hwy : IntKind.i64.wrap (y : Int) = (y : Int) := IntWalk.i64_in _ (by omega)
    clear hb3 hv3 hu3 hbr hbl hbr3 hbl3 hA hsz hok hbs CT HT HV HBS HK
    rcases Nat.lt_or_ge y 8388608 with hy | hy
    · obtain rfl : ez = 0 := by rw [HE.out, if_neg (by omega)]
      have hyd : decide ((8388608 : Int) ≤ (y : Int)) = false := decide_eq_false (by omega)
      have hyn : ¬ ((8388608 : Int) ≤ (y : Int)) := by omega
      have HY := Lib.hid hy
      clear hy hy16
      go_wp2_with fail
      have hdv : (y : Int) / 8192 / 32 = (y : Int) / 262144 := by omega
      obtain ⟨q1, q2, q3⟩ := low_ret (w := w) ⟨false, true, false, (y : Int) % 8192, (y : Int) / 8192 % 32, (y : Int) / 8192 / 32, 0, 0, false⟩ ((((HR3.out.far (p := ⟨w.heap.size + 1, 3, none⟩) (by simp) (.int .i64 ((y : Int) % 8192))).far (p := ⟨w.heap.size + 1, 4, none⟩) (by simp) (.int .i64 ((y : Int) / 8192 % 32))).far (p := ⟨w.heap.size + 1, 5, none⟩) (by simp) (.int .i64 ((y : Int) / 8192 / 32))).far (p := ⟨w.heap.size + 1, 9, none⟩) (by simp) (.slice A3 k.length c3)) rfl
        ((((HB3.out.setCell (p := ⟨w.heap.size + 1, 3, none⟩) (by simp) (.int .i64 ((y : Int) % 8192))).setCell (p := ⟨w.heap.size + 1, 4, none⟩) (by simp) (.int .i64 ((y : Int) / 8192 % 32))).setCell (p := ⟨w.heap.size + 1, 5, none⟩) (by simp) (.int .i64 ((y : Int) / 8192 / 32))).setCell (p := ⟨w.heap.size + 1, 9, none⟩) (by simp) (.slice A3 k.length c3))
        (own_away (own_away (own_away (own_away HU3.out (p := ⟨w.heap.size + 1, 3, none⟩) hz (.int .i64 ((y : Int) % 8192))) (p := ⟨w.heap.size + 1, 4, none⟩) hz (.int .i64 ((y : Int) / 8192 % 32))) (p := ⟨w.heap.size + 1, 5, none⟩) hz (.int .i64 ((y : Int) / 8192 / 32))) (p := ⟨w.heap.size + 1, 9, none⟩) hz (.slice A3 k.length c3)) (by omega)
      refine bodyPost_ret (res_low rfl _ _ w.heap.size ⟨false, true, false, (y : Int) % 8192, (y : Int) / 8192 % 32, (y : Int) / 8192 / 32, 0, 0, false⟩ (.slice A3 k.length c3) rfl ?_) rfl ⟨?_, ⟨false, true, false, (y : Int) % 8192, (y : Int) / 8192 % 32, (y : Int) / 8192 / 32, 0, 0, false⟩, A3, k.length, c3, rfl, fun _ => ⟨by rw [hdv], rfl, ?_⟩⟩
      · exact q1
      · exact q2
      · exact q3
    · obtain rfl : ez = 2 := by rw [HE.out, if_pos hy]
      have hyi : (8388608 : Int) ≤ (y : Int) := by omega
      go_wp2_with fail
      have hq := (HR3.out.put (lowCs ⟨false, true, false, 0, 0, 0, 0, 0, false⟩ (.slice none 0 0)) rfl)
      refine bodyPost_ret (res_low rfl _ _ w.heap.size ⟨false, true, false, 0, 0, 0, 0, 0, false⟩ (.slice none 0 0) rfl ?_) rfl ⟨?_, ⟨false, true, false, 0, 0, 0, 0, 0, false⟩, none, 0, 0, rfl, fun h => absurd h (by decide)⟩
      · exact hq
      · exact below_puts (b := w.heap.size) (Nat.le_refl _) 0 (lowCs ⟨false, true, false, 0, 0, 0, 0, 0, false⟩ (.slice none 0 0)) HB3.out

set_option maxRecDepth 100000 in
set_option maxHeartbeats 4000000 in
theorem access_192 (l : List UInt8) (hl : 0 < l.length) (hlm : l.length ≤ 140737488355328) (hk : b0 l = 192) (v : Value) (w : World) (hb : BS w w.heap.size v l) : Calls Try.prog 38 #[v] w (PrePost w (aE l) (aL l) (aB l)) := by
  obtain ⟨bb, o, c, rfl, hB, hnc, _, h0⟩ := first_cell hb hl
  have HBS := Lib.hid hb
  obtain ⟨er, her⟩ : ∃ er : Int, er = if 8388608 ≤ leVal ((l.drop 1).take 3) then 2 else 0 := ⟨_, rfl⟩
  obtain ⟨ez, hez⟩ : ∃ ez : Int, ez = if l.length < 4 then 3 else er := ⟨_, rfl⟩
  rw [show aE l = ez by unfold aE; rw [hez, her, hk]; rfl, show aL l = ⟨false, true, true, ((leVal ((l.drop 1).take 3) : Nat) : Int) % 8192, ((leVal ((l.drop 1).take 3) : Nat) : Int) / 8192 % 32, ((leVal ((l.drop 1).take 3) : Nat) : Int) / 262144, 0, 0, false⟩ by unfold aL; rw [hk]; rfl, show aB l = l.drop 4 by unfold aB; rw [hk]; rfl]
  rw [hk] at h0
  have CT := Lib.hid (fun (W : World) (v : Value) (hv : BS W W.heap.size v l) (u : Value) (hu : Sl W W.heap.size 1 u 2 (ints [1, 3])) => ttake_v v u l [1, 3] hv hu hlm (by simp))
  have HT := Lib.hid (take_seg l)
  have HV := Lib.hid (takeV_seg l)
  have hy16 := leVal_le l 1 3
  have hdl : (l.drop 4).length = l.length - 4 := List.length_drop ..
  generalize leVal ((l.drop 1).take 3) = y at *
  have HK := Lib.hid (show l.drop (offs [1, 3] 2) = l.drop 4 from rfl)
  generalize hnn : l.length = n at *
  have HN := Lib.hid hnn
  have HDL := Lib.hid hdl
  generalize l.drop 4 = k at *
  have HE := Lib.hid her
  have HEZ := Lib.hid hez
  have b1 : (bits BinOp.and IntKind.u8 192 128 != 0) = true := by decide +kernel
  have b2 : (bits BinOp.and IntKind.u8 192 64 != 0) = true := by decide +kernel
  have b3 : (bits BinOp.andNot IntKind.u8 192 192 != 0) = false := by decide +kernel
  clear hb hk hnn hdl hlm her hez
  rcases Nat.lt_or_ge n 4 with h4 | h4
  · have h4' : (n : Int) < 4 := by omega
    obtain rfl : ez = 3 := by rw [HEZ.out, if_pos h4]
    go_enter Try.func38, Try.ntmps38
    go_wp2_with fail
    go_region_held3 (fun w' => w'.cell? ⟨bb, o, none⟩ = some (.int .u8 192)) (go_keep) (fail)
    go_wp2_with fail
    refine bodyPost_ret (res_low rfl _ _ w.heap.size ⟨false, true, true, 0, 0, 0, 0, 0, false⟩ (.slice none 0 0) rfl ?_) rfl ⟨?_, ⟨false, true, true, 0, 0, 0, 0, 0, false⟩, none, 0, 0, rfl, fun h => absurd h (by decide)⟩
    · exact ((Box.new w _ _).alloc _).drew
    · exact (al2 _ _ _).drew
  · have h4' : (4 : Int) ≤ n := by omega
    have h4'' : decide ((n : Int) < 4) = false := decide_eq_false (by omega)
    obtain rfl : ez = er := by rw [HEZ.out, if_neg (by omega)]
    go_enter Try.func38, Try.ntmps38
    go_wp2_with fail
    go_region_held3 (fun w' => w'.cell? ⟨bb, o, none⟩ = some (.int .u8 192)) (go_keep) (fail)
    go_wp2_with fail
    obtain ⟨W, hW⟩ : ∃ W, W = ((w.alloc (.cells #[.bool false, .bool false, .bool false, .int .i64 0, .int .i64 0, .int .i64 0, .int .i64 0, .int .u32 0, .bool false, .slice none 0 0] 25)).alloc (.cells #[.bool false, .bool true, .bool true, .int .i64 0, .int .i64 0, .int .i64 0, .int .i64 0, .int .u32 0, .bool false, .slice none 0 0] 25)).drew := ⟨_, rfl⟩
    have hA : Below w.heap.size w W := by rw [hW]; exact (al2 _ _ _).drew
    have hbr : Box W w.heap.size (lowCs low0 (.slice none 0 0)) := by rw [hW]; exact ((Box.new _ _ _).alloc _).drew
    have hbl : Box W (w.heap.size + 1) (lowCs ⟨false, true, true, 0, 0, 0, 0, 0, false⟩ (.slice none 0 0)) := by rw [hW]; have h := Box.new (w.alloc (.cells #[.bool false, .bool false, .bool false, .int .i64 0, .int .i64 0, .int .i64 0, .int .i64 0, .int .u32 0, .bool false, .slice none 0 0] 25)) #[.bool false, .bool true, .bool true, .int .i64 0, .int .i64 0, .int .i64 0, .int .i64 0, .int .u32 0, .bool false, .slice none 0 0] 25; rw [World.size_alloc] at h; exact h.drew
    have hsz : w.heap.size + 1 + 1 = W.heap.size := by rw [hW]; simp
    rw [show ((((w.alloc (.cells #[.bool false, .bool false, .bool false, .int .i64 0, .int .i64 0, .int .i64 0, .int .i64 0, .int .u32 0, .bool false, .slice none 0 0] 25)).alloc (.cells #[.bool false, .bool true, .bool true, .int .i64 0, .int .i64 0, .int .i64 0, .int .i64 0, .int .u32 0, .bool false, .slice none 0 0] 25)).alloc (.cells #[.int .i64 1, .int .i64 3] 3)).drew : World) = W.alloc (.cells #[.int .i64 1, .int .i64 3] 3) by rw [hW]; rfl, hsz]
    clear hW
    have hbs : BS (W.alloc (.cells #[.int .i64 1, .int .i64 3] 3)) (W.alloc (.cells #[.int .i64 1, .int .i64 3] 3)).heap.size (.slice (some ⟨bb, o, none⟩) n c) l := by
      have h := (HBS.out.on hA).on (al1 _ (.cells #[.int .i64 1, .int .i64 3] 3))
      exact h
    refine (CT.out _ _ hbs _ ((Sl.lit (size := 1) W #[.int .i64 1, .int .i64 3] 3 2 rfl (by simp [maxLen])).more (by simp))).mono ?_
    rintro e w3 ⟨hb3, hok, _⟩
    obtain ⟨v3, u3, rfl, hv3, hu3, _⟩ := hok (HT.out (by omega))
    rw [show ([1, 3] : List Int).length = 2 from rfl, HV.out (by omega)] at hv3
    rw [show ([1, 3] : List Int).length = 2 from rfl, HK.out] at hu3
    obtain ⟨g, cg, rfl, hg1, hg2⟩ := own_addr hv3 (by omega)
    obtain ⟨A3, c3, rfl⟩ := own_slice hu3
    have hg1' : w.heap.size + 1 < g := by simp at hg1; omega
    have x0 := own_cell hv3 (k := 1) (u := .int .u64 (y : Int)) rfl
    have hbr3 := (hbr.alloc (.cells #[.int .i64 1, .int .i64 3] 3)).on hb3
    have hbl3 := (hbl.alloc (.cells #[.int .i64 1, .int .i64 3] 3)).on hb3
    have HR3 := Lib.hid hbr3
    have HU3 := Lib.hid (own_base hu3 (show W.heap.size ≤ _ by simp))
    have HB3 := Lib.hid (hA.trans ((one hb3).mono hA.size))
    obtain ⟨e0, e1, e2, e3, e4, e5, e6, e7, e8, e9⟩ := low_box hbl3
    obtain ⟨d0, d1, d2, d3, d4, d5, d6, d7, d8, d9⟩ := low_box hbr3
    have z1 := hbr3.lt
    have z2 := hbl3.lt
    obtain ⟨f0, f1, f2, f3, f4, f5, f6, f7, f8, f9⟩ := low_free hbl3
    obtain ⟨g0, g1, g2, g3, g4, g5, g6, g7, g8, g9⟩ := low_free hbr3
    dsimp only [low0] at d0 d1 d2 d3 d4 d5 d6 d7 d8 e0 e1 e2 e3 e4 e5 e6 e7 e8
    have hz : w.heap.size + 1 < W.heap.size := by omega
    have hwy : IntKind.i64.wrap (y : Int) = (y : Int) := IntWalk.i64_in _ (by omega)
    clear hb3 hv3 hu3 hbr hbl hbr3 hbl3 hA hsz hok hbs CT HT HV HBS HK
    rcases Nat.lt_or_ge y 8388608 with hy | hy
    · obtain rfl : ez = 0 := by rw [HE.out, if_neg (by omega)]
      have hyd : decide ((8388608 : Int) ≤ (y : Int)) = false := decide_eq_false (by omega)
      have hyn : ¬ ((8388608 : Int) ≤ (y : Int)) := by omega
      have HY := Lib.hid hy
      clear hy hy16
      go_wp2_with fail
      have hdv : (y : Int) / 8192 / 32 = (y : Int) / 262144 := by omega
      obtain ⟨q1, q2, q3⟩ := low_ret (w := w) ⟨false, true, true, (y : Int) % 8192, (y : Int) / 8192 % 32, (y : Int) / 8192 / 32, 0, 0, false⟩ ((((HR3.out.far (p := ⟨w.heap.size + 1, 3, none⟩) (by simp) (.int .i64 ((y : Int) % 8192))).far (p := ⟨w.heap.size + 1, 4, none⟩) (by simp) (.int .i64 ((y : Int) / 8192 % 32))).far (p := ⟨w.heap.size + 1, 5, none⟩) (by simp) (.int .i64 ((y : Int) / 8192 / 32))).far (p := ⟨w.heap.size + 1, 9, none⟩) (by simp) (.slice A3 k.length c3)) rfl
        ((((HB3.out.setCell (p := ⟨w.heap.size + 1, 3, none⟩) (by simp) (.int .i64 ((y : Int) % 8192))).setCell (p := ⟨w.heap.size + 1, 4, none⟩) (by simp) (.int .i64 ((y : Int) / 8192 % 32))).setCell (p := ⟨w.heap.size + 1, 5, none⟩) (by simp) (.int .i64 ((y : Int) / 8192 / 32))).setCell (p := ⟨w.heap.size + 1, 9, none⟩) (by simp) (.slice A3 k.length c3))
        (own_away (own_away (own_away (own_away HU3.out (p := ⟨w.heap.size + 1, 3, none⟩) hz (.int .i64 ((y : Int) % 8192))) (p := ⟨w.heap.size + 1, 4, none⟩) hz (.int .i64 ((y : Int) / 8192 % 32))) (p := ⟨w.heap.size + 1, 5, none⟩) hz (.int .i64 ((y : Int) / 8192 / 32))) (p := ⟨w.heap.size + 1, 9, none⟩) hz (.slice A3 k.length c3)) (by omega)
      refine bodyPost_ret (res_low rfl _ _ w.heap.size ⟨false, true, true, (y : Int) % 8192, (y : Int) / 8192 % 32, (y : Int) / 8192 / 32, 0, 0, false⟩ (.slice A3 k.length c3) rfl ?_) rfl ⟨?_, ⟨false, true, true, (y : Int) % 8192, (y : Int) / 8192 % 32, (y : Int) / 8192 / 32, 0, 0, false⟩, A3, k.length, c3, rfl, fun _ => ⟨by rw [hdv], rfl, ?_⟩⟩
      · exact q1
      · exact q2
      · exact q3
    · obtain rfl : ez = 2 := by rw [HE.out, if_pos hy]
      have hyi : (8388608 : Int) ≤ (y : Int) := by omega
      go_wp2_with fail
      have hq := (HR3.out.put (lowCs ⟨false, true, true, 0, 0, 0, 0, 0, false⟩ (.slice none 0 0)) rfl)
      refine bodyPost_ret (res_low rfl _ _ w.heap.size ⟨false, true, true, 0, 0, 0, 0, 0, false⟩ (.slice none 0 0) rfl ?_) rfl ⟨?_, ⟨false, true, true, 0, 0, 0, 0, 0, false⟩, none, 0, 0, rfl, fun h => absurd h (by decide)⟩
      · exact hq
      · exact below_puts (b := w.heap.size) (Nat.le_refl _) 0 (lowCs ⟨false, true, true, 0, 0, 0, 0, 0, false⟩ (.slice none 0 0)) HB3.out

/-- transport.access returns what an access payload holds, or its error. -/
theorem access_any (l : List UInt8) (hl : 0 < l.length) (hlm : l.length ≤ 140737488355328) (v : Value) (w : World) (hb : BS w w.heap.size v l) : Calls Try.prog 38 #[v] w (PrePost w (aE l) (aL l) (aB l)) := by
  by_cases h : b0 l % 64 = 0
  · rcases b0_four l h with h1 | h1 | h1 | h1
    · exact access_0 l hl hlm h1 v w hb
    · exact access_64 l hl hlm h1 v w hb
    · exact access_128 l hl hlm h1 v w hb
    · exact access_192 l hl hlm h1 v w hb
  · exact access_bits l hl h v w hb
end Go.Proofs.Ytkpjinkkjbljkaa
