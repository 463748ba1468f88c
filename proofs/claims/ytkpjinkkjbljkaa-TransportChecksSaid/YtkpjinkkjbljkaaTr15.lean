/- The walk of the reference's Decode of package transport at a segment. No condition. -/
import Derived.Test.YtkpjinkkjbljkaaTr14
namespace Go.Proofs.Ytkpjinkkjbljkaa
open Go.RowKit

set_option maxRecDepth 100000 in
set_option maxHeartbeats 4000000 in
theorem rtdecode_128 (l : List UInt8) (hl : 0 < l.length) (hlm : l.length ≤ 140737488355328) (hk : b0 l = 128) (h4 : 4 ≤ l.length) (h16 : leVal ((l.drop 1).take 3) < 8388608) (v : Value) (w : World) (hb : BS w w.heap.size v l) : Calls Try.prog 20 #[.bool false, v] w (RDecPost w false l) := by
  obtain ⟨bb, o, c, rfl, hB, hnc, hcm, h0⟩ := first_cell hb hl
  have HBS := Lib.hid hb
  have HC := Lib.hid (rest_cut hb hl)
  have hB' : bb < w.heap.size + 1 := by omega
  have hdl : (l.drop 1).length = l.length - 1 := List.length_drop ..
  have hdm : (l.drop 1).length ≤ 140737488355328 := by rw [hdl]; exact Nat.le_trans (Nat.sub_le _ _) hlm
  have h255 := b0_lt l
  obtain ⟨ck, hck⟩ : ∃ ck, ck = chkL ⟨false, true, false, ((leVal ((l.drop 1).take 3) : Nat) : Int) % 8192, ((leVal ((l.drop 1).take 3) : Nat) : Int) / 8192 % 32, ((leVal ((l.drop 1).take 3) : Nat) : Int) / 262144, 0, 0, false⟩ (l.drop 4).length := ⟨_, rfl⟩
  have hld : ldE false l = ck := by rw [hck]; exact ld_ok hl (show aE l = 0 by unfold aE; rw [hk, if_neg (by decide), if_neg (by decide), if_neg (by omega), if_neg (by omega)]) (show aL l = _ by unfold aL; rw [hk]; rfl) (show aB l = _ by unfold aB; rw [hk]; rfl)
  have HX := Lib.hid (show ∀ (e : Ending) (w' : World) A c, ck = 0 → Below w.heap.size w w' → e = .returned (.tuple #[lowV ⟨false, true, false, ((leVal ((l.drop 1).take 3) : Nat) : Int) % 8192, ((leVal ((l.drop 1).take 3) : Nat) : Int) / 8192 % 32, ((leVal ((l.drop 1).take 3) : Nat) : Int) / 262144, 0, 0, false⟩ (.slice A (l.drop 4).length c), .int .i64 0]) → BS w' w'.heap.size (.slice A (l.drop 4).length c) (l.drop 4) → RDecPost w false l e w' from fun e w' A c h0 h1 h2 h3 => RDecPost.ok (hld.trans h0) (show aL l = _ by unfold aL; rw [hk]; rfl) (show aB l = _ by unfold aB; rw [hk]; rfl) rfl h1 h2 h3)
  have HY := Lib.hid (show ∀ (e : Ending) (w' : World), ck ≠ 0 → Below w.heap.size w w' → e = .returned (.tuple #[lowV ⟨false, false, false, 0, 0, 0, 0, 0, false⟩ (.slice none 0 0), .int .i64 ck]) → RDecPost w false l e w' from fun e w' h0 h1 h2 => RDecPost.err hld h0 h1 h2)
  have CV := Lib.hid (show ∀ A c w, Calls Try.prog 40 #[lowV ⟨false, true, false, ((leVal ((l.drop 1).take 3) : Nat) : Int) % 8192, ((leVal ((l.drop 1).take 3) : Nat) : Int) / 8192 % 32, ((leVal ((l.drop 1).take 3) : Nat) : Int) / 262144, 0, 0, false⟩ (.slice A (l.drop 4).length c)] w (ValidPost w ⟨false, true, false, ((leVal ((l.drop 1).take 3) : Nat) : Int) % 8192, ((leVal ((l.drop 1).take 3) : Nat) : Int) / 8192 % 32, ((leVal ((l.drop 1).take 3) : Nat) : Int) / 262144, 0, 0, false⟩ A (l.drop 4).length c ck) from fun A c w => by rw [hck]; exact rvalid_any ⟨false, true, false, ((leVal ((l.drop 1).take 3) : Nat) : Int) % 8192, ((leVal ((l.drop 1).take 3) : Nat) : Int) / 8192 % 32, ((leVal ((l.drop 1).take 3) : Nat) : Int) / 262144, 0, 0, false⟩ A (l.drop 4).length c w)
  clear hld hck
  generalize hQ : RDecPost w false l = Q at *
  clear hQ
  obtain ⟨y, hy⟩ : ∃ y, y = leVal ((l.drop 1).take 3) := ⟨_, rfl⟩
  have hy16 : y < 16777216 := by have := leVal_le l 1 3; omega
  have VC := Lib.hid (show ∀ W : World, Below w.heap.size w W → Calls Try.prog 41 #[.slice (some ⟨bb, o + 1, none⟩) 3 (c - 1)] W fun e w' => e = .returned (.int .u64 (y : Nat)) ∧ W = w' by
    intro W hW
    have hp := hb.piece (k := 1) (m := 4) (by omega) (by omega) (by omega)
    have hpl : ((l.drop 1).take 3).length = 3 := by rw [List.length_take, List.length_drop]; omega
    have h := value_any ((l.drop 1).take 3) (some ⟨bb, o + 1, none⟩) (c - 1) W w.heap.size (by rw [hpl]; exact hp.below hW) (by omega)
    rw [hpl, ← hy] at h
    exact h)
  rw [hk] at h0
  rw [if_neg (show ¬ c = 1 by omega)] at HC
  have hc1 : ¬ c = 1 := by omega
  have hc4 : (4 : Int) ≤ (c : Int) := by omega
  have hcn : (l.length : Int) ≤ (c : Int) := by omega
  have hwy : IntKind.i64.wrap (y : Int) = (y : Int) := IntWalk.i64_in _ (by omega)
  unfold maxLen at hcm
  have h4' : (4 : Int) ≤ (l.length : Int) := by omega
  have h4'' : decide ((l.length : Int) < 4) = false := decide_eq_false (by omega)
  rw [← hy] at h16 HX CV
  have hyd : decide ((8388608 : Int) ≤ (y : Int)) = false := decide_eq_false (by omega)
  have hyn : ¬ ((8388608 : Int) ≤ (y : Int)) := by omega
  have t1 : (y : Int).tmod 8192 = (y : Int) % 8192 := by rw [Int.tmod_eq_emod_of_nonneg (by omega)]
  have t2 : (y : Int).tdiv 8192 = (y : Int) / 8192 := by rw [Int.tdiv_eq_ediv_of_nonneg (by omega)]
  have t3 : ((y : Int) / 8192).tmod 32 = (y : Int) / 8192 % 32 := by rw [Int.tmod_eq_emod_of_nonneg (by omega)]
  have t4 : (y : Int).tdiv 262144 = (y : Int) / 262144 := by rw [Int.tdiv_eq_ediv_of_nonneg (by omega)]
  have u1 : IntKind.i64.wrap ((y : Int) % 8192) = (y : Int) % 8192 := IntWalk.i64_in _ (by omega)
  have u2 : IntKind.i64.wrap ((y : Int) / 8192) = (y : Int) / 8192 := IntWalk.i64_in _ (by omega)
  have u3 : IntKind.i64.wrap ((y : Int) / 8192 % 32) = (y : Int) / 8192 % 32 := IntWalk.i64_in _ (by omega)
  have u4 : IntKind.i64.wrap ((y : Int) / 262144) = (y : Int) / 262144 := IntWalk.i64_in _ (by omega)
  have HJ := Lib.hid (show (l.drop 1).drop 3 = l.drop 4 by rw [List.drop_drop])
  have HJL := Lib.hid (show (l.drop 4).length = (l.drop 1).length - 3 by rw [List.length_drop, List.length_drop]; omega)
  have HKN := Lib.hid (show (l.drop 1).length = l.length - 1 from hdl)
  generalize l.drop 4 = j at *
  clear hy h16 hy16 hk
  generalize hnn : l.length = n at *
  have HN := Lib.hid hnn
  have HDM := Lib.hid hdm
  generalize l.drop 1 = k at *
  clear hb hnn hdl hdm hlm
  go_enter Try.func20, Try.ntmps20
  have HO := Lib.hid (show OB ((w.alloc (.cells #[.bool false, .bool false, .bool false, .int .i64 0, .int .i64 0, .int .i64 0, .int .i64 0, .int .u32 0, .bool false, .slice none 0 0] 25)).alloc (.cells #[] 5)) (w.heap.size + 1) (.slice (some ⟨w.heap.size + 1, 0, none⟩) 0 0) [] by have h := OB.nil (w.alloc (.cells #[.bool false, .bool false, .bool false, .int .i64 0, .int .i64 0, .int .i64 0, .int .i64 0, .int .u32 0, .bool false, .slice none 0 0] 25)); rwa [World.size_alloc] at h)
  have HZ := Lib.hid ((Box.new w #[.bool false, .bool false, .bool false, .int .i64 0, .int .i64 0, .int .i64 0, .int .i64 0, .int .u32 0, .bool false, .slice none 0 0] 25).alloc (.cells #[] 5))
  have HAL := Lib.hid (al2 w (.cells #[.bool false, .bool false, .bool false, .int .i64 0, .int .i64 0, .int .i64 0, .int .i64 0, .int .u32 0, .bool false, .slice none 0 0] 25) (.cells #[] 5))
  go_wp2_with (first
    | (at_builtin
       refine app_by _ elB rfl (.tmp 13) (.tmp 15) rfl rfl HO.out rfl (HC.out.on HAL.out) ?_ ?_ ?_
       (case refine_1 => have := HDM.out; simp; omega)
       (case refine_2 => simp)
       intro v1 w1 hown1 hb1
       have HR1 := Lib.hid (HZ.out.keep hb1 (Nat.lt_succ_self _))
       have HB1 := Lib.hid (HAL.out.trans (hb1.mono (Nat.le_succ _)))
       have hown1' : OB w1 (w.heap.size + 1) v1 k := hown1
       obtain ⟨A1, c1, rfl⟩ := own_slice hown1'
       have HO1 := Lib.hid hown1'
       have h1 := (HB1.out.cell (p := ⟨bb, o, none⟩) hB).trans h0
       obtain ⟨d0, d1, d2, d3, d4, d5, d6, d7, d8, d9⟩ := low_box (p := low0) HR1.out
       obtain ⟨g0, g1, g2, g3, g4, g5, g6, g7, g8, g9⟩ := low_free HR1.out
       dsimp only [low0] at d0 d1 d2 d3 d4 d5 d6 d7 d8
       have z1 := HR1.out.lt
       clear hb1 hown1 hown1'))
  refine (VC.out _ HB1.out).mono ?_
  rintro e w2 ⟨rfl, rfl⟩
  go_wp2_with fail
  have hcv := CV.out
  rw [HJL.out] at hcv
  have CV2 := Lib.hid hcv
  have hhx := HX.out
  rw [HJL.out] at hhx
  have HX2 := Lib.hid hhx
  clear hcv hhx CV HX
  have hkn := HKN.out
  have hg := own_addr HO1.out (show 0 < k.length by omega)
  obtain ⟨gg, c1', hgc, hg1, hg2⟩ := hg
  injection hgc with e1 e2 e3
  subst e1 e3
  have hk3 : (3 : Int) ≤ (k.length : Int) := by omega
  have hkc : k.length ≤ c1 ∧ c1 ≤ maxLen := (BS.of_own rfl HO1.out : BS _ _ _ k).cap
  have hkc' : (k.length : Int) ≤ (c1 : Int) := by omega
  have hkc3 : (3 : Int) ≤ (c1 : Int) := by omega
  clear hkc hyn hyd hkn
  by_cases hc3 : c1 = 3
  · subst hc3
    go_region_held3 (fun w' => w'.cell? ⟨bb, o, none⟩ = some (.int .u8 128)) (go_keep)
      (first
        | (go_at_call 40
           refine (CV2.out _ _ _).mono ?_
           rintro e w2 ⟨hb2, q, A2, n2, c2, rfl, hq0, hq1⟩
           have HR2 := Lib.hid (HR1.out.drew.on hb2)
           have HB2 := Lib.hid (bthen HB1.out.drew hb2)
           have HO2 := Lib.hid (own_on (own_drew HO1.out) hb2)
           have h2 : w2.cell? ⟨bb, o, none⟩ = some (.int .u8 128) := (HB2.out.cell (p := ⟨bb, o, none⟩) hB).trans h0
           clear d0 d1 d2 d3 d4 d5 d6 d7 d8 d9 g0 g1 g2 g3 g4 g5 g6 g7 g8 g9
           obtain ⟨d0, d1, d2, d3, d4, d5, d6, d7, d8, d9⟩ := low_box (p := low0) HR2.out
           obtain ⟨g0, g1, g2, g3, g4, g5, g6, g7, g8, g9⟩ := low_free HR2.out
           dsimp only [low0] at d0 d1 d2 d3 d4 d5 d6 d7 d8
           have z2 := HR2.out.lt
           have hnb : ¬ w.heap.size = bb := by omega
           clear hb2))
    by_cases hck : ck = 0
    · obtain ⟨rfl, rfl, rfl, rfl⟩ := hq0 hck
      obtain rfl := hck
      go_wp2_with fail
      refine bodyPost_ret (res_low rfl _ _ w.heap.size ⟨false, true, false, (y : Int) % 8192, (y : Int) / 8192 % 32, (y : Int) / 262144, 0, 0, false⟩ (.slice (some ⟨gg, 0, none⟩) (k.length - 3) 0) rfl ?_) rfl (HX2.out _ _ (some ⟨gg, 0, none⟩) 0 (by first | rfl | trivial) ?_ rfl ?_)
      · exact HR2.out.put (lowCs ⟨false, true, false, (y : Int) % 8192, (y : Int) / 8192 % 32, (y : Int) / 262144, 0, 0, false⟩ (.slice (some ⟨gg, 0, none⟩) (k.length - 3) 0)) rfl
      · exact below_puts (b := w.heap.size) (Nat.le_refl _) 0 (lowCs ⟨false, true, false, (y : Int) % 8192, (y : Int) / 8192 % 32, (y : Int) / 262144, 0, 0, false⟩ (.slice (some ⟨gg, 0, none⟩) (k.length - 3) 0)) HB2.out
      · have hs := (BS.of_own rfl (own_puts HO2.out (b := w.heap.size) (fun g hg => by have := (HO2.out.lt g hg).1; omega) 0 (lowCs ⟨false, true, false, (y : Int) % 8192, (y : Int) / 8192 % 32, (y : Int) / 262144, 0, 0, false⟩ (.slice (some ⟨gg, 0, none⟩) (k.length - 3) 0)))).cut (k := 3) (by omega)
        rw [if_pos rfl, HJ.out] at hs
        simp only [Nat.sub_self] at hs
        exact hs
    · obtain ⟨rfl, rfl, rfl, rfl⟩ := hq1 hck
      have HCK := Lib.hid hck
      clear hck hq0 hq1
      go_wp2_with fail
      refine bodyPost_ret (res_low rfl _ _ w.heap.size ⟨false, false, false, 0, 0, 0, 0, 0, false⟩ (.slice none 0 0) rfl ?_) rfl (HY.out _ _ HCK.out ?_ rfl)
      · exact HR2.out.put (lowCs ⟨false, false, false, 0, 0, 0, 0, 0, false⟩ (.slice none 0 0)) rfl
      · exact below_puts (b := w.heap.size) (Nat.le_refl _) 0 (lowCs ⟨false, false, false, 0, 0, 0, 0, 0, false⟩ (.slice none 0 0)) HB2.out
  · go_region_held3 (fun w' => w'.cell? ⟨bb, o, none⟩ = some (.int .u8 128)) (go_keep)
      (first
        | (go_at_call 40
           refine (CV2.out _ _ _).mono ?_
           rintro e w2 ⟨hb2, q, A2, n2, c2, rfl, hq0, hq1⟩
           have HR2 := Lib.hid (HR1.out.drew.on hb2)
           have HB2 := Lib.hid (bthen HB1.out.drew hb2)
           have HO2 := Lib.hid (own_on (own_drew HO1.out) hb2)
           have h2 : w2.cell? ⟨bb, o, none⟩ = some (.int .u8 128) := (HB2.out.cell (p := ⟨bb, o, none⟩) hB).trans h0
           clear d0 d1 d2 d3 d4 d5 d6 d7 d8 d9 g0 g1 g2 g3 g4 g5 g6 g7 g8 g9
           obtain ⟨d0, d1, d2, d3, d4, d5, d6, d7, d8, d9⟩ := low_box (p := low0) HR2.out
           obtain ⟨g0, g1, g2, g3, g4, g5, g6, g7, g8, g9⟩ := low_free HR2.out
           dsimp only [low0] at d0 d1 d2 d3 d4 d5 d6 d7 d8
           have z2 := HR2.out.lt
           have hnb : ¬ w.heap.size = bb := by omega
           clear hb2))
    by_cases hck : ck = 0
    · obtain ⟨rfl, rfl, rfl, rfl⟩ := hq0 hck
      obtain rfl := hck
      go_wp2_with fail
      refine bodyPost_ret (res_low rfl _ _ w.heap.size ⟨false, true, false, (y : Int) % 8192, (y : Int) / 8192 % 32, (y : Int) / 262144, 0, 0, false⟩ (.slice (some ⟨gg, 3, none⟩) (k.length - 3) (c1 - 3)) rfl ?_) rfl (HX2.out _ _ (some ⟨gg, 3, none⟩) (c1 - 3) (by first | rfl | trivial) ?_ rfl ?_)
      · exact HR2.out.put (lowCs ⟨false, true, false, (y : Int) % 8192, (y : Int) / 8192 % 32, (y : Int) / 262144, 0, 0, false⟩ (.slice (some ⟨gg, 3, none⟩) (k.length - 3) (c1 - 3))) rfl
      · exact below_puts (b := w.heap.size) (Nat.le_refl _) 0 (lowCs ⟨false, true, false, (y : Int) % 8192, (y : Int) / 8192 % 32, (y : Int) / 262144, 0, 0, false⟩ (.slice (some ⟨gg, 3, none⟩) (k.length - 3) (c1 - 3))) HB2.out
      · have hs := (BS.of_own rfl (own_puts HO2.out (b := w.heap.size) (fun g hg => by have := (HO2.out.lt g hg).1; omega) 0 (lowCs ⟨false, true, false, (y : Int) % 8192, (y : Int) / 8192 % 32, (y : Int) / 262144, 0, 0, false⟩ (.slice (some ⟨gg, 3, none⟩) (k.length - 3) (c1 - 3))))).cut (k := 3) (by omega)
        rw [if_neg hc3, HJ.out] at hs
        exact hs
    · obtain ⟨rfl, rfl, rfl, rfl⟩ := hq1 hck
      have HCK := Lib.hid hck
      clear hck hq0 hq1
      go_wp2_with fail
      refine bodyPost_ret (res_low rfl _ _ w.heap.size ⟨false, false, false, 0, 0, 0, 0, 0, false⟩ (.slice none 0 0) rfl ?_) rfl (HY.out _ _ HCK.out ?_ rfl)
      · exact HR2.out.put (lowCs ⟨false, false, false, 0, 0, 0, 0, 0, false⟩ (.slice none 0 0)) rfl
      · exact below_puts (b := w.heap.size) (Nat.le_refl _) 0 (lowCs ⟨false, false, false, 0, 0, 0, 0, 0, false⟩ (.slice none 0 0)) HB2.out

set_option maxRecDepth 100000 in
set_option maxHeartbeats 4000000 in
theorem rtdecode_192 (l : List UInt8) (hl : 0 < l.length) (hlm : l.length ≤ 140737488355328) (hk : b0 l = 192) (h4 : 4 ≤ l.length) (h16 : leVal ((l.drop 1).take 3) < 8388608) (v : Value) (w : World) (hb : BS w w.heap.size v l) : Calls Try.prog 20 #[.bool false, v] w (RDecPost w false l) := by
  obtain ⟨bb, o, c, rfl, hB, hnc, hcm, h0⟩ := first_cell hb hl
  have HBS := Lib.hid hb
  have HC := Lib.hid (rest_cut hb hl)
  have hB' : bb < w.heap.size + 1 := by omega
  have hdl : (l.drop 1).length = l.length - 1 := List.length_drop ..
  have hdm : (l.drop 1).length ≤ 140737488355328 := by rw [hdl]; exact Nat.le_trans (Nat.sub_le _ _) hlm
  have h255 := b0_lt l
  obtain ⟨ck, hck⟩ : ∃ ck, ck = chkL ⟨false, true, true, ((leVal ((l.drop 1).take 3) : Nat) : Int) % 8192, ((leVal ((l.drop 1).take 3) : Nat) : Int) / 8192 % 32, ((leVal ((l.drop 1).take 3) : Nat) : Int) / 262144, 0, 0, false⟩ (l.drop 4).length := ⟨_, rfl⟩
  have hld : ldE false l = ck := by rw [hck]; exact ld_ok hl (show aE l = 0 by unfold aE; rw [hk, if_neg (by decide), if_neg (by decide), if_neg (by omega), if_neg (by omega)]) (show aL l = _ by unfold aL; rw [hk]; rfl) (show aB l = _ by unfold aB; rw [hk]; rfl)
  have HX := Lib.hid (show ∀ (e : Ending) (w' : World) A c, ck = 0 → Below w.heap.size w w' → e = .returned (.tuple #[lowV ⟨false, true, true, ((leVal ((l.drop 1).take 3) : Nat) : Int) % 8192, ((leVal ((l.drop 1).take 3) : Nat) : Int) / 8192 % 32, ((leVal ((l.drop 1).take 3) : Nat) : Int) / 262144, 0, 0, false⟩ (.slice A (l.drop 4).length c), .int .i64 0]) → BS w' w'.heap.size (.slice A (l.drop 4).length c) (l.drop 4) → RDecPost w false l e w' from fun e w' A c h0 h1 h2 h3 => RDecPost.ok (hld.trans h0) (show aL l = _ by unfold aL; rw [hk]; rfl) (show aB l = _ by unfold aB; rw [hk]; rfl) rfl h1 h2 h3)
  have HY := Lib.hid (show ∀ (e : Ending) (w' : World), ck ≠ 0 → Below w.heap.size w w' → e = .returned (.tuple #[lowV ⟨false, false, false, 0, 0, 0, 0, 0, false⟩ (.slice none 0 0), .int .i64 ck]) → RDecPost w false l e w' from fun e w' h0 h1 h2 => RDecPost.err hld h0 h1 h2)
  have CV := Lib.hid (show ∀ A c w, Calls Try.prog 40 #[lowV ⟨false, true, true, ((leVal ((l.drop 1).take 3) : Nat) : Int) % 8192, ((leVal ((l.drop 1).take 3) : Nat) : Int) / 8192 % 32, ((leVal ((l.drop 1).take 3) : Nat) : Int) / 262144, 0, 0, false⟩ (.slice A (l.drop 4).length c)] w (ValidPost w ⟨false, true, true, ((leVal ((l.drop 1).take 3) : Nat) : Int) % 8192, ((leVal ((l.drop 1).take 3) : Nat) : Int) / 8192 % 32, ((leVal ((l.drop 1).take 3) : Nat) : Int) / 262144, 0, 0, false⟩ A (l.drop 4).length c ck) from fun A c w => by rw [hck]; exact rvalid_any ⟨false, true, true, ((leVal ((l.drop 1).take 3) : Nat) : Int) % 8192, ((leVal ((l.drop 1).take 3) : Nat) : Int) / 8192 % 32, ((leVal ((l.drop 1).take 3) : Nat) : Int) / 262144, 0, 0, false⟩ A (l.drop 4).length c w)
  clear hld hck
  generalize hQ : RDecPost w false l = Q at *
  clear hQ
  obtain ⟨y, hy⟩ : ∃ y, y = leVal ((l.drop 1).take 3) := ⟨_, rfl⟩
  have hy16 : y < 16777216 := by have := leVal_le l 1 3; omega
  have VC := Lib.hid (show ∀ W : World, Below w.heap.size w W → Calls Try.prog 41 #[.slice (some ⟨bb, o + 1, none⟩) 3 (c - 1)] W fun e w' => e = .returned (.int .u64 (y : Nat)) ∧ W = w' by
    intro W hW
    have hp := hb.piece (k := 1) (m := 4) (by omega) (by omega) (by omega)
    have hpl : ((l.drop 1).take 3).length = 3 := by rw [List.length_take, List.length_drop]; omega
    have h := value_any ((l.drop 1).take 3) (some ⟨bb, o + 1, none⟩) (c - 1) W w.heap.size (by rw [hpl]; exact hp.below hW) (by omega)
    rw [hpl, ← hy] at h
    exact h)
  rw [hk] at h0
  rw [if_neg (show ¬ c = 1 by omega)] at HC
  have hc1 : ¬ c = 1 := by omega
  have hc4 : (4 : Int) ≤ (c : Int) := by omega
  have hcn : (l.length : Int) ≤ (c : Int) := by omega
  have hwy : IntKind.i64.wrap (y : Int) = (y : Int) := IntWalk.i64_in _ (by omega)
  unfold maxLen at hcm
  have h4' : (4 : Int) ≤ (l.length : Int) := by omega
  have h4'' : decide ((l.length : Int) < 4) = false := decide_eq_false (by omega)
  rw [← hy] at h16 HX CV
  have hyd : decide ((8388608 : Int) ≤ (y : Int)) = false := decide_eq_false (by omega)
  have hyn : ¬ ((8388608 : Int) ≤ (y : Int)) := by omega
  have t1 : (y : Int).tmod 8192 = (y : Int) % 8192 := by rw [Int.tmod_eq_emod_of_nonneg (by omega)]
  have t2 : (y : Int).tdiv 8192 = (y : Int) / 8192 := by rw [Int.tdiv_eq_ediv_of_nonneg (by omega)]
  have t3 : ((y : Int) / 8192).tmod 32 = (y : Int) / 8192 % 32 := by rw [Int.tmod_eq_emod_of_nonneg (by omega)]
  have t4 : (y : Int).tdiv 262144 = (y : Int) / 262144 := by rw [Int.tdiv_eq_ediv_of_nonneg (by omega)]
  have u1 : IntKind.i64.wrap ((y : Int) % 8192) = (y : Int) % 8192 := IntWalk.i64_in _ (by omega)
  have u2 : IntKind.i64.wrap ((y : Int) / 8192) = (y : Int) / 8192 := IntWalk.i64_in _ (by omega)
  have u3 : IntKind.i64.wrap ((y : Int) / 8192 % 32) = (y : Int) / 8192 % 32 := IntWalk.i64_in _ (by omega)
  have u4 : IntKind.i64.wrap ((y : Int) / 262144) = (y : Int) / 262144 := IntWalk.i64_in _ (by omega)
  have HJ := Lib.hid (show (l.drop 1).drop 3 = l.drop 4 by rw [List.drop_drop])
  have HJL := Lib.hid (show (l.drop 4).length = (l.drop 1).length - 3 by rw [List.length_drop, List.length_drop]; omega)
  have HKN := Lib.hid (show (l.drop 1).length = l.length - 1 from hdl)
  generalize l.drop 4 = j at *
  clear hy h16 hy16 hk
  generalize hnn : l.length = n at *
  have HN := Lib.hid hnn
  have HDM := Lib.hid hdm
  generalize l.drop 1 = k at *
  clear hb hnn hdl hdm hlm
  go_enter Try.func20, Try.ntmps20
  have HO := Lib.hid (show OB ((w.alloc (.cells #[.bool false, .bool false, .bool false, .int .i64 0, .int .i64 0, .int .i64 0, .int .i64 0, .int .u32 0, .bool false, .slice none 0 0] 25)).alloc (.cells #[] 5)) (w.heap.size + 1) (.slice (some ⟨w.heap.size + 1, 0, none⟩) 0 0) [] by have h := OB.nil (w.alloc (.cells #[.bool false, .bool false, .bool false, .int .i64 0, .int .i64 0, .int .i64 0, .int .i64 0, .int .u32 0, .bool false, .slice none 0 0] 25)); rwa [World.size_alloc] at h)
  have HZ := Lib.hid ((Box.new w #[.bool false, .bool false, .bool false, .int .i64 0, .int .i64 0, .int .i64 0, .int .i64 0, .int .u32 0, .bool false, .slice none 0 0] 25).alloc (.cells #[] 5))
  have HAL := Lib.hid (al2 w (.cells #[.bool false, .bool false, .bool false, .int .i64 0, .int .i64 0, .int .i64 0, .int .i64 0, .int .u32 0, .bool false, .slice none 0 0] 25) (.cells #[] 5))
  go_wp2_with (first
    | (at_builtin
       refine app_by _ elB rfl (.tmp 13) (.tmp 15) rfl rfl HO.out rfl (HC.out.on HAL.out) ?_ ?_ ?_
       (case refine_1 => have := HDM.out; simp; omega)
       (case refine_2 => simp)
       intro v1 w1 hown1 hb1
       have HR1 := Lib.hid (HZ.out.keep hb1 (Nat.lt_succ_self _))
       have HB1 := Lib.hid (HAL.out.trans (hb1.mono (Nat.le_succ _)))
       have hown1' : OB w1 (w.heap.size + 1) v1 k := hown1
       obtain ⟨A1, c1, rfl⟩ := own_slice hown1'
       have HO1 := Lib.hid hown1'
       have h1 := (HB1.out.cell (p := ⟨bb, o, none⟩) hB).trans h0
       obtain ⟨d0, d1, d2, d3, d4, d5, d6, d7, d8, d9⟩ := low_box (p := low0) HR1.out
       obtain ⟨g0, g1, g2, g3, g4, g5, g6, g7, g8, g9⟩ := low_free HR1.out
       dsimp only [low0] at d0 d1 d2 d3 d4 d5 d6 d7 d8
       have z1 := HR1.out.lt
       clear hb1 hown1 hown1'))
  refine (VC.out _ HB1.out).mono ?_
  rintro e w2 ⟨rfl, rfl⟩
  go_wp2_with fail
  have hcv := CV.out
  rw [HJL.out] at hcv
  have CV2 := Lib.hid hcv
  have hhx := HX.out
  rw [HJL.out] at hhx
  have HX2 := Lib.hid hhx
  clear hcv hhx CV HX
  have hkn := HKN.out
  have hg := own_addr HO1.out (show 0 < k.length by omega)
  obtain ⟨gg, c1', hgc, hg1, hg2⟩ := hg
  injection hgc with e1 e2 e3
  subst e1 e3
  have hk3 : (3 : Int) ≤ (k.length : Int) := by omega
  have hkc : k.length ≤ c1 ∧ c1 ≤ maxLen := (BS.of_own rfl HO1.out : BS _ _ _ k).cap
  have hkc' : (k.length : Int) ≤ (c1 : Int) := by omega
  have hkc3 : (3 : Int) ≤ (c1 : Int) := by omega
  clear hkc hyn hyd hkn
  by_cases hc3 : c1 = 3
  · subst hc3
    go_region_held3 (fun w' => w'.cell? ⟨bb, o, none⟩ = some (.int .u8 192)) (go_keep)
      (first
        | (go_at_call 40
           refine (CV2.out _ _ _).mono ?_
           rintro e w2 ⟨hb2, q, A2, n2, c2, rfl, hq0, hq1⟩
           have HR2 := Lib.hid (HR1.out.drew.on hb2)
           have HB2 := Lib.hid (bthen HB1.out.drew hb2)
           have HO2 := Lib.hid (own_on (own_drew HO1.out) hb2)
           have h2 : w2.cell? ⟨bb, o, none⟩ = some (.int .u8 192) := (HB2.out.cell (p := ⟨bb, o, none⟩) hB).trans h0
           clear d0 d1 d2 d3 d4 d5 d6 d7 d8 d9 g0 g1 g2 g3 g4 g5 g6 g7 g8 g9
           obtain ⟨d0, d1, d2, d3, d4, d5, d6, d7, d8, d9⟩ := low_box (p := low0) HR2.out
           obtain ⟨g0, g1, g2, g3, g4, g5, g6, g7, g8, g9⟩ := low_free HR2.out
           dsimp only [low0] at d0 d1 d2 d3 d4 d5 d6 d7 d8
           have z2 := HR2.out.lt
           have hnb : ¬ w.heap.size = bb := by omega
           clear hb2))
    by_cases hck : ck = 0
    · obtain ⟨rfl, rfl, rfl, rfl⟩ := hq0 hck
      obtain rfl := hck
      go_wp2_with fail
      refine bodyPost_ret (res_low rfl _ _ w.heap.size ⟨false, true, true, (y : Int) % 8192, (y : Int) / 8192 % 32, (y : Int) / 262144, 0, 0, false⟩ (.slice (some ⟨gg, 0, none⟩) (k.length - 3) 0) rfl ?_) rfl (HX2.out _ _ (some ⟨gg, 0, none⟩) 0 (by first | rfl | trivial) ?_ rfl ?_)
      · exact HR2.out.put (lowCs ⟨false, true, true, (y : Int) % 8192, (y : Int) / 8192 % 32, (y : Int) / 262144, 0, 0, false⟩ (.slice (some ⟨gg, 0, none⟩) (k.length - 3) 0)) rfl
      · exact below_puts (b := w.heap.size) (Nat.le_refl _) 0 (lowCs ⟨false, true, true, (y : Int) % 8192, (y : Int) / 8192 % 32, (y : Int) / 262144, 0, 0, false⟩ (.slice (some ⟨gg, 0, none⟩) (k.length - 3) 0)) HB2.out
      · have hs := (BS.of_own rfl (own_puts HO2.out (b := w.heap.size) (fun g hg => by have := (HO2.out.lt g hg).1; omega) 0 (lowCs ⟨false, true, true, (y : Int) % 8192, (y : Int) / 8192 % 32, (y : Int) / 262144, 0, 0, false⟩ (.slice (some ⟨gg, 0, none⟩) (k.length - 3) 0)))).cut (k := 3) (by omega)
        rw [if_pos rfl, HJ.out] at hs
        simp only [Nat.sub_self] at hs
        exact hs
    · obtain ⟨rfl, rfl, rfl, rfl⟩ := hq1 hck
      have HCK := Lib.hid hck
      clear hck hq0 hq1
      go_wp2_with fail
      refine bodyPost_ret (res_low rfl _ _ w.heap.size ⟨false, false, false, 0, 0, 0, 0, 0, false⟩ (.slice none 0 0) rfl ?_) rfl (HY.out _ _ HCK.out ?_ rfl)
      · exact HR2.out.put (lowCs ⟨false, false, false, 0, 0, 0, 0, 0, false⟩ (.slice none 0 0)) rfl
      · exact below_puts (b := w.heap.size) (Nat.le_refl _) 0 (lowCs ⟨false, false, false, 0, 0, 0, 0, 0, false⟩ (.slice none 0 0)) HB2.out
  · go_region_held3 (fun w' => w'.cell? ⟨bb, o, none⟩ = some (.int .u8 192)) (go_keep)
      (first
        | (go_at_call 40
           refine (CV2.out _ _ _).mono ?_
           rintro e w2 ⟨hb2, q, A2, n2, c2, rfl, hq0, hq1⟩
           have HR2 := Lib.hid (HR1.out.drew.on hb2)
           have HB2 := Lib.hid (bthen HB1.out.drew hb2)
           have HO2 := Lib.hid (own_on (own_drew HO1.out) hb2)
           have h2 : w2.cell? ⟨bb, o, none⟩ = some (.int .u8 192) := (HB2.out.cell (p := ⟨bb, o, none⟩) hB).trans h0
           clear d0 d1 d2 d3 d4 d5 d6 d7 d8 d9 g0 g1 g2 g3 g4 g5 g6 g7 g8 g9
           obtain ⟨d0, d1, d2, d3, d4, d5, d6, d7, d8, d9⟩ := low_box (p := low0) HR2.out
           obtain ⟨g0, g1, g2, g3, g4, g5, g6, g7, g8, g9⟩ := low_free HR2.out
           dsimp only [low0] at d0 d1 d2 d3 d4 d5 d6 d7 d8
           have z2 := HR2.out.lt
           have hnb : ¬ w.heap.size = bb := by omega
           clear hb2))
    by_cases hck : ck = 0
    · obtain ⟨rfl, rfl, rfl, rfl⟩ := hq0 hck
      obtain rfl := hck
      go_wp2_with fail
      refine bodyPost_ret (res_low rfl _ _ w.heap.size ⟨false, true, true, (y : Int) % 8192, (y : Int) / 8192 % 32, (y : Int) / 262144, 0, 0, false⟩ (.slice (some ⟨gg, 3, none⟩) (k.length - 3) (c1 - 3)) rfl ?_) rfl (HX2.out _ _ (some ⟨gg, 3, none⟩) (c1 - 3) (by first | rfl | trivial) ?_ rfl ?_)
      · exact HR2.out.put (lowCs ⟨false, true, true, (y : Int) % 8192, (y : Int) / 8192 % 32, (y : Int) / 262144, 0, 0, false⟩ (.slice (some ⟨gg, 3, none⟩) (k.length - 3) (c1 - 3))) rfl
      · exact below_puts (b := w.heap.size) (Nat.le_refl _) 0 (lowCs ⟨false, true, true, (y : Int) % 8192, (y : Int) / 8192 % 32, (y : Int) / 262144, 0, 0, false⟩ (.slice (some ⟨gg, 3, none⟩) (k.length - 3) (c1 - 3))) HB2.out
      · have hs := (BS.of_own rfl (own_puts HO2.out (b := w.heap.size) (fun g hg => by have := (HO2.out.lt g hg).1; omega) 0 (lowCs ⟨false, true, true, (y : Int) % 8192, (y : Int) / 8192 % 32, (y : Int) / 262144, 0, 0, false⟩ (.slice (some ⟨gg, 3, none⟩) (k.length - 3) (c1 - 3))))).cut (k := 3) (by omega)
        rw [if_neg hc3, HJ.out] at hs
        exact hs
    · obtain ⟨rfl, rfl, rfl, rfl⟩ := hq1 hck
      have HCK := Lib.hid hck
      clear hck hq0 hq1
      go_wp2_with fail
      refine bodyPost_ret (res_low rfl _ _ w.heap.size ⟨false, false, false, 0, 0, 0, 0, 0, false⟩ (.slice none 0 0) rfl ?_) rfl (HY.out _ _ HCK.out ?_ rfl)
      · exact HR2.out.put (lowCs ⟨false, false, false, 0, 0, 0, 0, 0, false⟩ (.slice none 0 0)) rfl
      · exact below_puts (b := w.heap.size) (Nat.le_refl _) 0 (lowCs ⟨false, false, false, 0, 0, 0, 0, 0, false⟩ (.slice none 0 0)) HB2.out

/-- The reference's Decode returns the PDU of a payload, or the error. -/
theorem rtdecode_any (ct : Bool) (l : List UInt8) (hlm : l.length ≤ 140737488355328) (v : Value) (w : World) (hb : BS w w.heap.size v l) : Calls Try.prog 20 #[.bool ct, v] w (RDecPost w ct l) := by
  rcases Nat.eq_zero_or_pos l.length with h | h
  · obtain rfl := List.eq_nil_of_length_eq_zero h
    exact rtdecode_nil ct v w hb
  · rcases ct with _ | _
    · by_cases h0 : b0 l % 64 = 0
      · rcases b0_four l h0 with h1 | h1 | h1 | h1
        · exact rtdecode_0 l h hlm h1 v w hb
        · exact rtdecode_64 l h hlm h1 v w hb
        · by_cases h4 : l.length < 4
          · exact rtdecode_128s l h hlm h1 h4 v w hb
          · by_cases h5 : 8388608 ≤ leVal ((l.drop 1).take 3)
            · exact rtdecode_128y l h hlm h1 (by omega) h5 v w hb
            · exact rtdecode_128 l h hlm h1 (by omega) (by omega) v w hb
        · by_cases h4 : l.length < 4
          · exact rtdecode_192s l h hlm h1 h4 v w hb
          · by_cases h5 : 8388608 ≤ leVal ((l.drop 1).take 3)
            · exact rtdecode_192y l h hlm h1 (by omega) h5 v w hb
            · exact rtdecode_192 l h hlm h1 (by omega) (by omega) v w hb
      · exact rtdecode_bits l h hlm h0 v w hb
    · by_cases h1 : 8 < b0 l
      · exact rtdecode_kind l h hlm h1 v w hb
      · by_cases h2 : b0 l = 0
        · rcases Nat.lt_trichotomy l.length 7 with h7 | h7 | h7
          · exact rtdecode_short l h hlm h2 h7 v w hb
          · by_cases h5 : 16384 ≤ leVal ((l.drop 1).take 2)
            · exact rtdecode_syn l h hlm h2 h7 h5 v w hb
            · exact rtdecode_ack l h hlm h2 h7 (by omega) v w hb
          · exact rtdecode_long l h hlm h2 h7 v w hb
        · exact rtdecode_op l h hlm h2 (by omega) v w hb
end Go.Proofs.Ytkpjinkkjbljkaa
