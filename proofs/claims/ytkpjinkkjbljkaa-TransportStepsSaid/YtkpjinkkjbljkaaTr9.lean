/- The walk of transport.control at an acknowledgement. No condition. -/
import Derived.Test.YtkpjinkkjbljkaaTr8
import Derived.Deep.RegionHeld3
namespace Go.Proofs.Ytkpjinkkjbljkaa
open Go.RowKit

theorem take_ack (l : List UInt8) (h : l.length = 7) : takeE l [1, 2, 4] = 0 := by
  show (if l.length < 7 then (3 : Int) else 0) = 0
  rw [if_neg (by omega)]
theorem takeV_ack (l : List UInt8) (h : 7 ≤ l.length) : takeV l [1, 2, 4] 3 = [b0 l, leVal ((l.drop 1).take 2), leVal ((l.drop 3).take 4)] := by
  match l, h with
  | a :: l, h =>
    show [leVal ((a :: l).drop 0 |>.take 1), leVal (((a :: l).drop 1).take 2), leVal (((a :: l).drop 3).take 4)] = _
    simp [leVal, b0]
theorem leVal_le (l : List UInt8) (k n : Nat) : leVal ((l.drop k).take n) < 2 ^ (8 * n) := by
  have h := leVal_lt ((l.drop k).take n)
  have h2 : 2 ^ (8 * ((l.drop k).take n).length) ≤ 2 ^ (8 * n) := Nat.pow_le_pow_right (by omega) (by have := List.length_take_le n (l.drop k); omega)
  omega

set_option maxRecDepth 100000 in
set_option maxHeartbeats 4000000 in
theorem control_ack (l : List UInt8) (hk : b0 l = 0) (h7 : l.length = 7) (v : Value) (w : World) (hb : BS w w.heap.size v l) : Calls Try.prog 39 #[v] w (PrePost w (cE l) (cL l) (cB l)) := by
  obtain ⟨bb, o, c, rfl, hB, hnc, _, h0⟩ := first_cell hb (by omega)
  have HBS := Lib.hid hb
  rw [show cE l = if 16384 ≤ leVal ((l.drop 1).take 2) then 2 else 0 by unfold cE; rw [if_neg (by omega), if_neg (by omega), if_neg (by omega), if_neg (by omega)],
    show cL l = ⟨true, false, false, ((leVal ((l.drop 1).take 2) : Nat) : Int) % 8192, 0, 0, 0, leVal ((l.drop 3).take 4), decide ((8192 : Int) ≤ ((leVal ((l.drop 1).take 2) : Nat) : Int))⟩ by unfold cL; rw [if_neg (by omega)], show cB l = [] by unfold cB; rw [if_neg (by omega)]]
  rw [hk] at h0
  have CT := Lib.hid (fun (W : World) (v : Value) (hv : BS W W.heap.size v l) (u : Value) (hu : Sl W W.heap.size 1 u 3 (ints [1, 2, 4])) => ttake_v v u l [1, 2, 4] hv hu (by omega) (by simp))
  have HT := Lib.hid (take_ack l h7)
  have HV := Lib.hid (takeV_ack l (by omega))
  have hy16 := leVal_le l 1 2
  have hz32 := leVal_le l 3 4
  generalize leVal ((l.drop 1).take 2) = y at *
  generalize leVal ((l.drop 3).take 4) = z at *
  obtain ⟨er, her⟩ : ∃ er : Int, er = if 16384 ≤ y then 2 else 0 := ⟨_, rfl⟩
  rw [← her]
  have HE := Lib.hid her
  clear her
  rw [h7]
  have H7 := Lib.hid h7
  clear hb h7 hnc
  go_enter Try.func39, Try.ntmps39
  go_wp2_with fail
  obtain ⟨W, hW⟩ : ∃ W, W = (w.alloc (.cells #[.bool false, .bool false, .bool false, .int .i64 0, .int .i64 0, .int .i64 0, .int .i64 0, .int .u32 0, .bool false, .slice none 0 0] 25)).alloc (.cells #[.bool true, .bool false, .bool false, .int .i64 0, .int .i64 0, .int .i64 0, .int .i64 0, .int .u32 0, .bool false, .slice none 0 0] 25) := ⟨_, rfl⟩
  have hA : Below w.heap.size w W := by rw [hW]; exact al2 _ _ _
  have hbr : Box W w.heap.size (lowCs low0 (.slice none 0 0)) := by rw [hW]; exact (Box.new _ _ _).alloc _
  have hbl : Box W (w.heap.size + 1) (lowCs ⟨true, false, false, 0, 0, 0, 0, 0, false⟩ (.slice none 0 0)) := by rw [hW]; have h := Box.new (w.alloc (.cells #[.bool false, .bool false, .bool false, .int .i64 0, .int .i64 0, .int .i64 0, .int .i64 0, .int .u32 0, .bool false, .slice none 0 0] 25)) #[.bool true, .bool false, .bool false, .int .i64 0, .int .i64 0, .int .i64 0, .int .i64 0, .int .u32 0, .bool false, .slice none 0 0] 25; rw [World.size_alloc] at h; exact h
  have hsz : w.heap.size + 1 + 1 = W.heap.size := by rw [hW]; simp
  rw [← hW, hsz]
  clear hW
  have hbs : BS (W.alloc (.cells #[.int .i64 1, .int .i64 2, .int .i64 4] 3)) (W.alloc (.cells #[.int .i64 1, .int .i64 2, .int .i64 4] 3)).heap.size (.slice (some ⟨bb, o, none⟩) 7 c) l := by
    have h := (HBS.out.on hA).on (al1 _ (.cells #[.int .i64 1, .int .i64 2, .int .i64 4] 3))
    rwa [H7.out] at h
  refine (CT.out _ _ hbs _ ((Sl.lit (size := 1) W #[.int .i64 1, .int .i64 2, .int .i64 4] 3 3 rfl (by simp [maxLen])).more (by simp))).mono ?_
  rintro e w3 ⟨hb3, hok, _⟩
  obtain ⟨v3, u3, rfl, hv3, _, _⟩ := hok HT.out
  rw [show ([1, 2, 4] : List Int).length = 3 from rfl, HV.out] at hv3
  obtain ⟨g, cg, rfl, hg1, hg2⟩ := own_addr hv3 (by omega)
  have hg1' : w.heap.size + 1 < g := by simp at hg1; omega
  have x0 := own_cell hv3 (k := 1) (u := .int .u64 (y : Int)) rfl
  have x1 := own_cell hv3 (k := 2) (u := .int .u64 (z : Int)) rfl
  have hbr3 := (hbr.alloc (.cells #[.int .i64 1, .int .i64 2, .int .i64 4] 3)).on hb3
  have hbl3 := (hbl.alloc (.cells #[.int .i64 1, .int .i64 2, .int .i64 4] 3)).on hb3
  have HR3 := Lib.hid hbr3
  have HB3 := Lib.hid (hA.trans ((one hb3).mono hA.size))
  obtain ⟨e0, e1, e2, e3, e4, e5, e6, e7, e8, e9⟩ := low_box hbl3
  obtain ⟨d0, d1, d2, d3, d4, d5, d6, d7, d8, d9⟩ := low_box hbr3
  have z1 := hbr3.lt
  have z2 := hbl3.lt
  obtain ⟨f0, f1, f2, f3, f4, f5, f6, f7, f8, f9⟩ := low_free hbl3
  obtain ⟨g0, g1, g2, g3, g4, g5, g6, g7, g8, g9⟩ := low_free hbr3
  dsimp only [low0] at d0 d1 d2 d3 d4 d5 d6 d7 d8 e0 e1 e2 e3 e4 e5 e6 e7 e8
  have hz : w.heap.size + 1 < W.heap.size := by omega
  clear hb3 hv3 hbr hbl hbr3 hbl3 hA hsz hok hbs CT HT HV HBS H7
  rcases Nat.lt_or_ge y 16384 with hy | hy
  · obtain rfl : er = 0 := by rw [HE.out, if_neg (by omega)]
    have hyi : (y : Int) < 16384 := by omega
    go_wp2_with fail
    have hwy : IntKind.i64.wrap ((y : Int) % 8192) = (y : Int) % 8192 := IntWalk.i64_in _ (by omega)
    have hne : ¬ w.heap.size + 1 = g := by omega
    have hwz := wr32 (show z ≤ 4294967295 by omega)
    go_region_held3 (fun w' => w'.cell? ⟨g, 1, none⟩ = some (.int .u64 (y : Int)) ∧ w'.cell? ⟨g, 2, none⟩ = some (.int .u64 (z : Int))) (go_keep) (fail)
    rw [show ((y : Int).tmod 8192) = ((y % 8192 : Nat) : Int) by rw [Int.tmod_eq_emod_of_nonneg (by omega)]; omega, show IntKind.i64.wrap ((y % 8192 : Nat) : Int) = ((y % 8192 : Nat) : Int) from IntWalk.i64_in _ (by omega)]
    go_wp2_with fail
    have hq := (((HR3.out.far (p := ⟨w.heap.size + 1, 3, none⟩) (by simp) (.int .i64 ((y : Int) % 8192))).far (p := ⟨w.heap.size + 1, 8, none⟩) (by simp) (.bool (decide ((8192 : Int) ≤ (y : Int))))).far (p := ⟨w.heap.size + 1, 7, none⟩) (by simp) (.int .u32 (z : Int))).put (lowCs ⟨true, false, false, (y : Int) % 8192, 0, 0, 0, z, decide ((8192 : Int) ≤ (y : Int))⟩ (.slice none 0 0)) rfl
    have hq2 := below_puts (b := w.heap.size) (Nat.le_refl _) 0 (lowCs ⟨true, false, false, (y : Int) % 8192, 0, 0, 0, z, decide ((8192 : Int) ≤ (y : Int))⟩ (.slice none 0 0)) (((HB3.out.setCell (p := ⟨w.heap.size + 1, 3, none⟩) (by simp) (.int .i64 ((y : Int) % 8192))).setCell (p := ⟨w.heap.size + 1, 8, none⟩) (by simp) (.bool (decide ((8192 : Int) ≤ (y : Int))))).setCell (p := ⟨w.heap.size + 1, 7, none⟩) (by simp) (.int .u32 (z : Int)))
    refine bodyPost_ret (res_low rfl _ _ w.heap.size ⟨true, false, false, (y : Int) % 8192, 0, 0, 0, z, decide ((8192 : Int) ≤ (y : Int))⟩ (.slice none 0 0) rfl ?_) rfl ⟨?_, ⟨true, false, false, (y : Int) % 8192, 0, 0, 0, z, decide ((8192 : Int) ≤ (y : Int))⟩, none, 0, 0, rfl, fun _ => ⟨rfl, rfl, World.ownsRow_nil _ _ _ _⟩⟩
    · exact Box.drew hq
    · exact Below.drew hq2
  · obtain rfl : er = 2 := by rw [HE.out, if_pos hy]
    have hyi : (16384 : Int) ≤ (y : Int) := by omega
    go_wp2_with fail
    have hq := (HR3.out.put (lowCs ⟨true, false, false, 0, 0, 0, 0, 0, false⟩ (.slice none 0 0)) rfl)
    refine bodyPost_ret (res_low rfl _ _ w.heap.size ⟨true, false, false, 0, 0, 0, 0, 0, false⟩ (.slice none 0 0) rfl ?_) rfl ⟨?_, ⟨true, false, false, 0, 0, 0, 0, 0, false⟩, none, 0, 0, rfl, fun h => absurd h (by decide)⟩
    · exact hq
    · exact below_puts (b := w.heap.size) (Nat.le_refl _) 0 (lowCs ⟨true, false, false, 0, 0, 0, 0, 0, false⟩ (.slice none 0 0)) HB3.out
/-- transport.control returns what a control payload holds, or its error. -/
theorem control_any (l : List UInt8) (hl : 0 < l.length) (hlm : l.length ≤ 140737488355328) (v : Value) (w : World) (hb : BS w w.heap.size v l) : Calls Try.prog 39 #[v] w (PrePost w (cE l) (cL l) (cB l)) := by
  by_cases h1 : 8 < b0 l
  · exact control_kind l hl h1 v w hb
  · by_cases h2 : b0 l = 0
    · by_cases h3 : l.length = 7
      · exact control_ack l h2 h3 v w hb
      · exact control_none l hl h2 h3 v w hb
    · exact control_op l hl hlm h2 (by omega) v w hb
end Go.Proofs.Ytkpjinkkjbljkaa
