/- The walk of the reference's Decode of package transport. No condition. -/
import Derived.Test.YtkpjinkkjbljkaaTr13
namespace Go.Proofs.Ytkpjinkkjbljkaa
open Go.RowKit

/-- A piece out of bytes: 'b[k:m]'. -/
theorem BS.piece {w : World} {B n c b off : Nat} {l : List UInt8} (h : BS w B (.slice (some ⟨b, off, none⟩) n c) l) {k m : Nat} (hk : k ≤ m) (hm : m ≤ l.length) (hc : k < c) :
    BS w B (.slice (some ⟨b, off + k, none⟩) (m - k) (c - k)) ((l.drop k).take (m - k)) := by
  obtain ⟨A', c', e, h1, h2, h3, h4⟩ := h
  injection e with e1 e2 e3
  subst e1 e2 e3
  have hl : ((l.drop k).take (m - k)).length = m - k := by rw [List.length_take, List.length_drop]; omega
  refine ⟨_, c - k, by rw [hl], by rw [hl]; omega, by omega, by rw [bys_length]; omega, ?_⟩
  rcases h4 with h4 | ⟨b', off', e, hb, hcell⟩
  · left
    have : l = [] := by simpa [bys] using h4
    subst this
    simp [bys]
  · right
    injection e with e
    injection e with e1 e2
    subst e1 e2
    refine ⟨b, off + k, rfl, hb, fun j u hu => ?_⟩
    rw [Nat.add_assoc]
    apply hcell
    rw [bys_take, bys_drop] at hu
    by_cases hj : j < m - k
    · rw [List.getElem?_take_of_lt hj, List.getElem?_drop] at hu
      exact hu
    · rw [List.getElem?_eq_none (by simp; omega)] at hu
      cases hu

theorem ld_err {ct : Bool} {l : List UInt8} {er : Int} (hl : 0 < l.length) (h : preE ct l = er) (hne : er ≠ 0) : ldE ct l = er := by
  unfold ldE
  rw [if_neg (by omega), h, if_pos hne]
theorem ld_ok {ct : Bool} {l k : List UInt8} {p : Low} (hl : 0 < l.length) (h : preE ct l = 0) (hp : preL ct l = p) (hk : preB ct l = k) : ldE ct l = chkL p k.length := by
  unfold ldE
  rw [if_neg (by omega), h, if_neg (by decide), hp, hk]
/-- What the reference's decoding leaves. -/
def RDecPost (w : World) (ct : Bool) (l : List UInt8) (e : Ending) (w' : World) : Prop :=
  Below w.heap.size w w' ∧ ∃ A c, e = .returned (.tuple #[lowV (ldL ct l) (.slice A (ldB ct l).length c), .int .i64 (ldE ct l)]) ∧ BS w' w'.heap.size (.slice A (ldB ct l).length c) (ldB ct l)
theorem RDecPost.err {w w' : World} {ct : Bool} {l : List UInt8} {e : Ending} {er : Int} (h : ldE ct l = er) (hne : er ≠ 0) (hb : Below w.heap.size w w') (he : e = .returned (.tuple #[lowV ⟨false, false, false, 0, 0, 0, 0, 0, false⟩ (.slice none 0 0), .int .i64 er])) : RDecPost w ct l e w' := by
  unfold RDecPost ldL ldB
  rw [h, if_neg hne, if_neg hne]
  exact ⟨hb, none, 0, he, BS.nil _ _⟩
theorem RDecPost.ok {w w' : World} {ct : Bool} {l k : List UInt8} {p : Low} {e : Ending} {A : Option Addr} {n c : Nat} (h : ldE ct l = 0) (hp : preL ct l = p) (hk : preB ct l = k) (hn : n = k.length) (hb : Below w.heap.size w w') (he : e = .returned (.tuple #[lowV p (.slice A n c), .int .i64 0])) (hs : BS w' w'.heap.size (.slice A n c) k) : RDecPost w ct l e w' := by
  subst hn hp hk
  unfold RDecPost ldL ldB
  rw [h, if_pos rfl, if_pos rfl]
  exact ⟨hb, A, c, he, hs⟩

set_option maxRecDepth 100000 in
set_option maxHeartbeats 4000000 in
theorem rtdecode_nil (ct : Bool) (v : Value) (w : World) (hb : BS w w.heap.size v []) : Calls Try.prog 20 #[.bool ct, v] w (RDecPost w ct []) := by
  obtain ⟨A, c, rfl, _⟩ := id hb
  clear hb
  go_enter Try.func20, Try.ntmps20
  go_wp2_with fail
  refine bodyPost_ret (v := .tuple #[lowV ⟨false, false, false, 0, 0, 0, 0, 0, false⟩ (.slice none 0 0), .int .i64 3]) (by simp [results, Try.results20, go_sem]) rfl (RDecPost.err (show ldE ct [] = 3 from rfl) (by omega) ?_ rfl)
  exact al1 _ _

set_option maxRecDepth 100000 in
set_option maxHeartbeats 4000000 in
theorem rtdecode_kind (l : List UInt8) (hl : 0 < l.length) (hlm : l.length ≤ 140737488355328) (hk : 8 < b0 l) (v : Value) (w : World) (hb : BS w w.heap.size v l) : Calls Try.prog 20 #[.bool true, v] w (RDecPost w true l) := by
  obtain ⟨bb, o, c, rfl, hB, hnc, hcm, h0⟩ := first_cell hb hl
  have HBS := Lib.hid hb
  have HC := Lib.hid (rest_cut hb hl)
  have hB' : bb < w.heap.size + 1 := by omega
  have hdl : (l.drop 1).length = l.length - 1 := List.length_drop ..
  have hdm : (l.drop 1).length ≤ 140737488355328 := by rw [hdl]; exact Nat.le_trans (Nat.sub_le _ _) hlm
  have h255 := b0_lt l
  have HY := Lib.hid (show ∀ (e : Ending) (w' : World), Below w.heap.size w w' → e = .returned (.tuple #[lowV ⟨false, false, false, 0, 0, 0, 0, 0, false⟩ (.slice none 0 0), .int .i64 12]) → RDecPost w true l e w' from fun e w' h1 h2 => RDecPost.err (show ldE true l = 12 by unfold ldE preE cE; rw [if_neg (by omega), if_pos rfl, if_pos hk]; rfl) (by omega) h1 h2)
  generalize hQ : RDecPost w true l = Q at *
  clear hQ
  generalize b0 l = x at *
  have hx : (8 : Int) < (x : Int) := by omega
  clear hk
  generalize hnn : l.length = n at *
  have HN := Lib.hid hnn
  have HDM := Lib.hid hdm
  generalize l.drop 1 = k at *
  clear hb hnn hdl hdm hlm
  by_cases hc : c = 1
  · subst hc
    rw [if_pos rfl] at HC
    obtain rfl : n = 1 := by omega
    go_enter Try.func20, Try.ntmps20
    have HO := Lib.hid (show OB ((w.alloc (.cells #[.bool false, .bool false, .bool false, .int .i64 0, .int .i64 0, .int .i64 0, .int .i64 0, .int .u32 0, .bool false, .slice none 0 0] 25)).alloc (.cells #[] 5)) (w.heap.size + 1) (.slice (some ⟨w.heap.size + 1, 0, none⟩) 0 0) [] by have h := OB.nil (w.alloc (.cells #[.bool false, .bool false, .bool false, .int .i64 0, .int .i64 0, .int .i64 0, .int .i64 0, .int .u32 0, .bool false, .slice none 0 0] 25)); rwa [World.size_alloc] at h)
    have HZ := Lib.hid ((Box.new w #[.bool false, .bool false, .bool false, .int .i64 0, .int .i64 0, .int .i64 0, .int .i64 0, .int .u32 0, .bool false, .slice none 0 0] 25).alloc (.cells #[] 5))
    have HAL := Lib.hid (al2 w (.cells #[.bool false, .bool false, .bool false, .int .i64 0, .int .i64 0, .int .i64 0, .int .i64 0, .int .u32 0, .bool false, .slice none 0 0] 25) (.cells #[] 5))
    go_wp2_with (first
      | (at_builtin
         refine app_by _ elB rfl (.tmp 13) (.tmp 15) rfl rfl HO.out rfl (HC.out.on HAL.out) ?_ ?_ ?_
         (case refine_1 => have := HDM.out; simp; omega)
         (case refine_2 => simp)
         intro v1 w1 hown1 hb1
         have HR1 := Lib.hid (HZ.out.keep hb1 (Nat.lt_succ_self _))
         have HB1 := Lib.hid (HAL.out.trans (hb1.mono (Nat.le_succ _)))
         have hown1' : OB w1 (w.heap.size + 1) v1 k := hown1
         obtain ⟨A1, c1, rfl⟩ := own_slice hown1'
         have HO1 := Lib.hid hown1'
         have h1 := (HB1.out.cell (p := ⟨bb, o, none⟩) hB).trans h0
         obtain ⟨d0, d1, d2, d3, d4, d5, d6, d7, d8, d9⟩ := low_box (p := low0) HR1.out
         obtain ⟨g0, g1, g2, g3, g4, g5, g6, g7, g8, g9⟩ := low_free HR1.out
         dsimp only [low0] at d0 d1 d2 d3 d4 d5 d6 d7 d8
         have z1 := HR1.out.lt
         clear hb1 hown1 hown1'))
    refine bodyPost_ret (res_low rfl _ _ w.heap.size ⟨false, false, false, 0, 0, 0, 0, 0, false⟩ (.slice none 0 0) rfl ?_) rfl (HY.out _ _ ?_ rfl)
    · exact HR1.out.put (lowCs ⟨false, false, false, 0, 0, 0, 0, 0, false⟩ (.slice none 0 0)) rfl
    · exact below_puts (b := w.heap.size) (Nat.le_refl _) 0 (lowCs ⟨false, false, false, 0, 0, 0, 0, 0, false⟩ (.slice none 0 0)) HB1.out
  · rw [if_neg hc] at HC
    go_enter Try.func20, Try.ntmps20
    have HO := Lib.hid (show OB ((w.alloc (.cells #[.bool false, .bool false, .bool false, .int .i64 0, .int .i64 0, .int .i64 0, .int .i64 0, .int .u32 0, .bool false, .slice none 0 0] 25)).alloc (.cells #[] 5)) (w.heap.size + 1) (.slice (some ⟨w.heap.size + 1, 0, none⟩) 0 0) [] by have h := OB.nil (w.alloc (.cells #[.bool false, .bool false, .bool false, .int .i64 0, .int .i64 0, .int .i64 0, .int .i64 0, .int .u32 0, .bool false, .slice none 0 0] 25)); rwa [World.size_alloc] at h)
    have HZ := Lib.hid ((Box.new w #[.bool false, .bool false, .bool false, .int .i64 0, .int .i64 0, .int .i64 0, .int .i64 0, .int .u32 0, .bool false, .slice none 0 0] 25).alloc (.cells #[] 5))
    have HAL := Lib.hid (al2 w (.cells #[.bool false, .bool false, .bool false, .int .i64 0, .int .i64 0, .int .i64 0, .int .i64 0, .int .u32 0, .bool false, .slice none 0 0] 25) (.cells #[] 5))
    go_wp2_with (first
      | (at_builtin
         refine app_by _ elB rfl (.tmp 13) (.tmp 15) rfl rfl HO.out rfl (HC.out.on HAL.out) ?_ ?_ ?_
         (case refine_1 => have := HDM.out; simp; omega)
         (case refine_2 => simp)
         intro v1 w1 hown1 hb1
         have HR1 := Lib.hid (HZ.out.keep hb1 (Nat.lt_succ_self _))
         have HB1 := Lib.hid (HAL.out.trans (hb1.mono (Nat.le_succ _)))
         have hown1' : OB w1 (w.heap.size + 1) v1 k := hown1
         obtain ⟨A1, c1, rfl⟩ := own_slice hown1'
         have HO1 := Lib.hid hown1'
         have h1 := (HB1.out.cell (p := ⟨bb, o, none⟩) hB).trans h0
         obtain ⟨d0, d1, d2, d3, d4, d5, d6, d7, d8, d9⟩ := low_box (p := low0) HR1.out
         obtain ⟨g0, g1, g2, g3, g4, g5, g6, g7, g8, g9⟩ := low_free HR1.out
         dsimp only [low0] at d0 d1 d2 d3 d4 d5 d6 d7 d8
         have z1 := HR1.out.lt
         clear hb1 hown1 hown1'))
    refine bodyPost_ret (res_low rfl _ _ w.heap.size ⟨false, false, false, 0, 0, 0, 0, 0, false⟩ (.slice none 0 0) rfl ?_) rfl (HY.out _ _ ?_ rfl)
    · exact HR1.out.put (lowCs ⟨false, false, false, 0, 0, 0, 0, 0, false⟩ (.slice none 0 0)) rfl
    · exact below_puts (b := w.heap.size) (Nat.le_refl _) 0 (lowCs ⟨false, false, false, 0, 0, 0, 0, 0, false⟩ (.slice none 0 0)) HB1.out

set_option maxRecDepth 100000 in
set_option maxHeartbeats 4000000 in
theorem rtdecode_op (l : List UInt8) (hl : 0 < l.length) (hlm : l.length ≤ 140737488355328) (hk : b0 l ≠ 0) (hk8 : b0 l ≤ 8) (v : Value) (w : World) (hb : BS w w.heap.size v l) : Calls Try.prog 20 #[.bool true, v] w (RDecPost w true l) := by
  obtain ⟨bb, o, c, rfl, hB, hnc, hcm, h0⟩ := first_cell hb hl
  have HBS := Lib.hid hb
  have HC := Lib.hid (rest_cut hb hl)
  have hB' : bb < w.heap.size + 1 := by omega
  have hdl : (l.drop 1).length = l.length - 1 := List.length_drop ..
  have hdm : (l.drop 1).length ≤ 140737488355328 := by rw [hdl]; exact Nat.le_trans (Nat.sub_le _ _) hlm
  have h255 := b0_lt l
  obtain ⟨ck, hck⟩ : ∃ ck, ck = chkL ⟨true, false, false, 0, 0, 0, (b0 l : Int), 0, false⟩ (l.drop 1).length := ⟨_, rfl⟩
  have hld : ldE true l = ck := by rw [hck]; unfold ldE preE preL preB cE cL cB; rw [if_neg (by omega), if_pos rfl, if_neg (by omega), if_pos hk]; simp [hk]
  have HX := Lib.hid (show ∀ (e : Ending) (w' : World) A c, ck = 0 → Below w.heap.size w w' → e = .returned (.tuple #[lowV ⟨true, false, false, 0, 0, 0, (b0 l : Int), 0, false⟩ (.slice A (l.drop 1).length c), .int .i64 0]) → BS w' w'.heap.size (.slice A (l.drop 1).length c) (l.drop 1) → RDecPost w true l e w' from fun e w' A c h0 h1 h2 h3 => RDecPost.ok (hld.trans h0) (show preL true l = _ by unfold preL cL; rw [if_pos rfl, if_pos hk]) (show preB true l = _ by unfold preB cB; rw [if_pos rfl, if_pos hk]) rfl h1 h2 h3)
  have HY := Lib.hid (show ∀ (e : Ending) (w' : World), ck ≠ 0 → Below w.heap.size w w' → e = .returned (.tuple #[lowV ⟨false, false, false, 0, 0, 0, 0, 0, false⟩ (.slice none 0 0), .int .i64 ck]) → RDecPost w true l e w' from fun e w' h0 h1 h2 => RDecPost.err hld h0 h1 h2)
  have CV := Lib.hid (show ∀ A c w, Calls Try.prog 40 #[lowV ⟨true, false, false, 0, 0, 0, (b0 l : Int), 0, false⟩ (.slice A (l.drop 1).length c)] w (ValidPost w ⟨true, false, false, 0, 0, 0, (b0 l : Int), 0, false⟩ A (l.drop 1).length c ck) from fun A c w => by rw [hck]; exact rvalid_any ⟨true, false, false, 0, 0, 0, (b0 l : Int), 0, false⟩ A (l.drop 1).length c w)
  clear hld hck
  generalize hQ : RDecPost w true l = Q at *
  clear hQ
  generalize b0 l = x at *
  have hx : (x : Int) ≤ 8 := by omega
  have hx0 : (0 : Int) < (x : Int) := by omega
  have hwr : IntKind.i64.wrap (x : Int) = (x : Int) := IntWalk.i64_in _ (by omega)
  clear hk
  generalize hnn : l.length = n at *
  have HN := Lib.hid hnn
  have HDM := Lib.hid hdm
  generalize l.drop 1 = k at *
  clear hb hnn hdl hdm hlm
  by_cases hc : c = 1
  · subst hc
    rw [if_pos rfl] at HC
    obtain rfl : n = 1 := by omega
    go_enter Try.func20, Try.ntmps20
    have HO := Lib.hid (show OB ((w.alloc (.cells #[.bool false, .bool false, .bool false, .int .i64 0, .int .i64 0, .int .i64 0, .int .i64 0, .int .u32 0, .bool false, .slice none 0 0] 25)).alloc (.cells #[] 5)) (w.heap.size + 1) (.slice (some ⟨w.heap.size + 1, 0, none⟩) 0 0) [] by have h := OB.nil (w.alloc (.cells #[.bool false, .bool false, .bool false, .int .i64 0, .int .i64 0, .int .i64 0, .int .i64 0, .int .u32 0, .bool false, .slice none 0 0] 25)); rwa [World.size_alloc] at h)
    have HZ := Lib.hid ((Box.new w #[.bool false, .bool false, .bool false, .int .i64 0, .int .i64 0, .int .i64 0, .int .i64 0, .int .u32 0, .bool false, .slice none 0 0] 25).alloc (.cells #[] 5))
    have HAL := Lib.hid (al2 w (.cells #[.bool false, .bool false, .bool false, .int .i64 0, .int .i64 0, .int .i64 0, .int .i64 0, .int .u32 0, .bool false, .slice none 0 0] 25) (.cells #[] 5))
    go_wp2_with (first
      | (at_builtin
         refine app_by _ elB rfl (.tmp 13) (.tmp 15) rfl rfl HO.out rfl (HC.out.on HAL.out) ?_ ?_ ?_
         (case refine_1 => have := HDM.out; simp; omega)
         (case refine_2 => simp)
         intro v1 w1 hown1 hb1
         have HR1 := Lib.hid (HZ.out.keep hb1 (Nat.lt_succ_self _))
         have HB1 := Lib.hid (HAL.out.trans (hb1.mono (Nat.le_succ _)))
         have hown1' : OB w1 (w.heap.size + 1) v1 k := hown1
         obtain ⟨A1, c1, rfl⟩ := own_slice hown1'
         have HO1 := Lib.hid hown1'
         have h1 := (HB1.out.cell (p := ⟨bb, o, none⟩) hB).trans h0
         obtain ⟨d0, d1, d2, d3, d4, d5, d6, d7, d8, d9⟩ := low_box (p := low0) HR1.out
         obtain ⟨g0, g1, g2, g3, g4, g5, g6, g7, g8, g9⟩ := low_free HR1.out
         dsimp only [low0] at d0 d1 d2 d3 d4 d5 d6 d7 d8
         have z1 := HR1.out.lt
         clear hb1 hown1 hown1'))
    refine (CV.out A1 c1 _).mono ?_
    rintro e w2 ⟨hb2, q, A2, n2, c2, rfl, hq0, hq1⟩
    have HR2 := Lib.hid (HR1.out.on hb2)
    have HB2 := Lib.hid (bthen HB1.out hb2)
    have HO2 := Lib.hid (own_on HO1.out hb2)
    obtain ⟨d0, d1, d2, d3, d4, d5, d6, d7, d8, d9⟩ := low_box (p := low0) HR2.out
    obtain ⟨g0, g1, g2, g3, g4, g5, g6, g7, g8, g9⟩ := low_free HR2.out
    dsimp only [low0] at d0 d1 d2 d3 d4 d5 d6 d7 d8
    have z2 := HR2.out.lt
    clear hb2
    by_cases hck : ck = 0
    · obtain ⟨rfl, rfl, rfl, rfl⟩ := hq0 hck
      obtain rfl := hck
      go_wp2_with fail
      refine bodyPost_ret (res_low rfl _ _ w.heap.size ⟨true, false, false, 0, 0, 0, (x : Int), 0, false⟩ (.slice A2 k.length c2) rfl ?_) rfl (HX.out _ _ A2 c2 (by first | rfl | trivial) ?_ rfl ?_)
      · exact HR2.out.put (lowCs ⟨true, false, false, 0, 0, 0, (x : Int), 0, false⟩ (.slice A2 k.length c2)) rfl
      · exact below_puts (b := w.heap.size) (Nat.le_refl _) 0 (lowCs ⟨true, false, false, 0, 0, 0, (x : Int), 0, false⟩ (.slice A2 k.length c2)) HB2.out
      · exact BS.of_own rfl (own_puts HO2.out (b := w.heap.size) (fun g hg => by have := (HO2.out.lt g hg).1; omega) 0 (lowCs ⟨true, false, false, 0, 0, 0, (x : Int), 0, false⟩ (.slice A2 k.length c2)))
    · obtain ⟨rfl, rfl, rfl, rfl⟩ := hq1 hck
      have HCK := Lib.hid hck
      clear hck hq0 hq1
      go_wp2_with fail
      refine bodyPost_ret (res_low rfl _ _ w.heap.size ⟨false, false, false, 0, 0, 0, 0, 0, false⟩ (.slice none 0 0) rfl ?_) rfl (HY.out _ _ HCK.out ?_ rfl)
      · exact HR2.out.put (lowCs ⟨false, false, false, 0, 0, 0, 0, 0, false⟩ (.slice none 0 0)) rfl
      · exact below_puts (b := w.heap.size) (Nat.le_refl _) 0 (lowCs ⟨false, false, false, 0, 0, 0, 0, 0, false⟩ (.slice none 0 0)) HB2.out
  · rw [if_neg hc] at HC
    go_enter Try.func20, Try.ntmps20
    have HO := Lib.hid (show OB ((w.alloc (.cells #[.bool false, .bool false, .bool false, .int .i64 0, .int .i64 0, .int .i64 0, .int .i64 0, .int .u32 0, .bool false, .slice none 0 0] 25)).alloc (.cells #[] 5)) (w.heap.size + 1) (.slice (some ⟨w.heap.size + 1, 0, none⟩) 0 0) [] by have h := OB.nil (w.alloc (.cells #[.bool false, .bool false, .bool false, .int .i64 0, .int .i64 0, .int .i64 0, .int .i64 0, .int .u32 0, .bool false, .slice none 0 0] 25)); rwa [World.size_alloc] at h)
    have HZ := Lib.hid ((Box.new w #[.bool false, .bool false, .bool false, .int .i64 0, .int .i64 0, .int .i64 0, .int .i64 0, .int .u32 0, .bool false, .slice none 0 0] 25).alloc (.cells #[] 5))
    have HAL := Lib.hid (al2 w (.cells #[.bool false, .bool false, .bool false, .int .i64 0, .int .i64 0, .int .i64 0, .int .i64 0, .int .u32 0, .bool false, .slice none 0 0] 25) (.cells #[] 5))
    go_wp2_with (first
      | (at_builtin
         refine app_by _ elB rfl (.tmp 13) (.tmp 15) rfl rfl HO.out rfl (HC.out.on HAL.out) ?_ ?_ ?_
         (case refine_1 => have := HDM.out; simp; omega)
         (case refine_2 => simp)
         intro v1 w1 hown1 hb1
         have HR1 := Lib.hid (HZ.out.keep hb1 (Nat.lt_succ_self _))
         have HB1 := Lib.hid (HAL.out.trans (hb1.mono (Nat.le_succ _)))
         have hown1' : OB w1 (w.heap.size + 1) v1 k := hown1
         obtain ⟨A1, c1, rfl⟩ := own_slice hown1'
         have HO1 := Lib.hid hown1'
         have h1 := (HB1.out.cell (p := ⟨bb, o, none⟩) hB).trans h0
         obtain ⟨d0, d1, d2, d3, d4, d5, d6, d7, d8, d9⟩ := low_box (p := low0) HR1.out
         obtain ⟨g0, g1, g2, g3, g4, g5, g6, g7, g8, g9⟩ := low_free HR1.out
         dsimp only [low0] at d0 d1 d2 d3 d4 d5 d6 d7 d8
         have z1 := HR1.out.lt
         clear hb1 hown1 hown1'))
    refine (CV.out A1 c1 _).mono ?_
    rintro e w2 ⟨hb2, q, A2, n2, c2, rfl, hq0, hq1⟩
    have HR2 := Lib.hid (HR1.out.on hb2)
    have HB2 := Lib.hid (bthen HB1.out hb2)
    have HO2 := Lib.hid (own_on HO1.out hb2)
    obtain ⟨d0, d1, d2, d3, d4, d5, d6, d7, d8, d9⟩ := low_box (p := low0) HR2.out
    obtain ⟨g0, g1, g2, g3, g4, g5, g6, g7, g8, g9⟩ := low_free HR2.out
    dsimp only [low0] at d0 d1 d2 d3 d4 d5 d6 d7 d8
    have z2 := HR2.out.lt
    clear hb2
    by_cases hck : ck = 0
    · obtain ⟨rfl, rfl, rfl, rfl⟩ := hq0 hck
      obtain rfl := hck
      go_wp2_with fail
      refine bodyPost_ret (res_low rfl _ _ w.heap.size ⟨true, false, false, 0, 0, 0, (x : Int), 0, false⟩ (.slice A2 k.length c2) rfl ?_) rfl (HX.out _ _ A2 c2 (by first | rfl | trivial) ?_ rfl ?_)
      · exact HR2.out.put (lowCs ⟨true, false, false, 0, 0, 0, (x : Int), 0, false⟩ (.slice A2 k.length c2)) rfl
      · exact below_puts (b := w.heap.size) (Nat.le_refl _) 0 (lowCs ⟨true, false, false, 0, 0, 0, (x : Int), 0, false⟩ (.slice A2 k.length c2)) HB2.out
      · exact BS.of_own rfl (own_puts HO2.out (b := w.heap.size) (fun g hg => by have := (HO2.out.lt g hg).1; omega) 0 (lowCs ⟨true, false, false, 0, 0, 0, (x : Int), 0, false⟩ (.slice A2 k.length c2)))
    · obtain ⟨rfl, rfl, rfl, rfl⟩ := hq1 hck
      have HCK := Lib.hid hck
      clear hck hq0 hq1
      go_wp2_with fail
      refine bodyPost_ret (res_low rfl _ _ w.heap.size ⟨false, false, false, 0, 0, 0, 0, 0, false⟩ (.slice none 0 0) rfl ?_) rfl (HY.out _ _ HCK.out ?_ rfl)
      · exact HR2.out.put (lowCs ⟨false, false, false, 0, 0, 0, 0, 0, false⟩ (.slice none 0 0)) rfl
      · exact below_puts (b := w.heap.size) (Nat.le_refl _) 0 (lowCs ⟨false, false, false, 0, 0, 0, 0, 0, false⟩ (.slice none 0 0)) HB2.out

set_option maxRecDepth 100000 in
set_option maxHeartbeats 4000000 in
theorem rtdecode_short (l : List UInt8) (hl : 0 < l.length) (hlm : l.length ≤ 140737488355328) (hk : b0 l = 0) (h7 : l.length < 7) (v : Value) (w : World) (hb : BS w w.heap.size v l) : Calls Try.prog 20 #[.bool true, v] w (RDecPost w true l) := by
  obtain ⟨bb, o, c, rfl, hB, hnc, hcm, h0⟩ := first_cell hb hl
  have HBS := Lib.hid hb
  have HC := Lib.hid (rest_cut hb hl)
  have hB' : bb < w.heap.size + 1 := by omega
  have hdl : (l.drop 1).length = l.length - 1 := List.length_drop ..
  have hdm : (l.drop 1).length ≤ 140737488355328 := by rw [hdl]; exact Nat.le_trans (Nat.sub_le _ _) hlm
  have h255 := b0_lt l
  have HY := Lib.hid (show ∀ (e : Ending) (w' : World), Below w.heap.size w w' → e = .returned (.tuple #[lowV ⟨false, false, false, 0, 0, 0, 0, 0, false⟩ (.slice none 0 0), .int .i64 3]) → RDecPost w true l e w' from fun e w' h1 h2 => RDecPost.err (show ldE true l = 3 by exact ld_err hl (show cE l = 3 by unfold cE; rw [if_neg (by omega), if_neg (by omega), if_pos h7]) (by decide)) (by omega) h1 h2)
  generalize hQ : RDecPost w true l = Q at *
  clear hQ
  rw [hk] at h0
  have h7' : (l.length : Int) < 7 := by omega
  generalize hnn : l.length = n at *
  have HN := Lib.hid hnn
  have HDM := Lib.hid hdm
  generalize l.drop 1 = k at *
  clear hb hnn hdl hdm hlm
  by_cases hc : c = 1
  · subst hc
    rw [if_pos rfl] at HC
    obtain rfl : n = 1 := by omega
    go_enter Try.func20, Try.ntmps20
    have HO := Lib.hid (show OB ((w.alloc (.cells #[.bool false, .bool false, .bool false, .int .i64 0, .int .i64 0, .int .i64 0, .int .i64 0, .int .u32 0, .bool false, .slice none 0 0] 25)).alloc (.cells #[] 5)) (w.heap.size + 1) (.slice (some ⟨w.heap.size + 1, 0, none⟩) 0 0) [] by have h := OB.nil (w.alloc (.cells #[.bool false, .bool false, .bool false, .int .i64 0, .int .i64 0, .int .i64 0, .int .i64 0, .int .u32 0, .bool false, .slice none 0 0] 25)); rwa [World.size_alloc] at h)
    have HZ := Lib.hid ((Box.new w #[.bool false, .bool false, .bool false, .int .i64 0, .int .i64 0, .int .i64 0, .int .i64 0, .int .u32 0, .bool false, .slice none 0 0] 25).alloc (.cells #[] 5))
    have HAL := Lib.hid (al2 w (.cells #[.bool false, .bool false, .bool false, .int .i64 0, .int .i64 0, .int .i64 0, .int .i64 0, .int .u32 0, .bool false, .slice none 0 0] 25) (.cells #[] 5))
    go_wp2_with (first
      | (at_builtin
         refine app_by _ elB rfl (.tmp 13) (.tmp 15) rfl rfl HO.out rfl (HC.out.on HAL.out) ?_ ?_ ?_
         (case refine_1 => have := HDM.out; simp; omega)
         (case refine_2 => simp)
         intro v1 w1 hown1 hb1
         have HR1 := Lib.hid (HZ.out.keep hb1 (Nat.lt_succ_self _))
         have HB1 := Lib.hid (HAL.out.trans (hb1.mono (Nat.le_succ _)))
         have hown1' : OB w1 (w.heap.size + 1) v1 k := hown1
         obtain ⟨A1, c1, rfl⟩ := own_slice hown1'
         have HO1 := Lib.hid hown1'
         have h1 := (HB1.out.cell (p := ⟨bb, o, none⟩) hB).trans h0
         obtain ⟨d0, d1, d2, d3, d4, d5, d6, d7, d8, d9⟩ := low_box (p := low0) HR1.out
         obtain ⟨g0, g1, g2, g3, g4, g5, g6, g7, g8, g9⟩ := low_free HR1.out
         dsimp only [low0] at d0 d1 d2 d3 d4 d5 d6 d7 d8
         have z1 := HR1.out.lt
         clear hb1 hown1 hown1'))
    refine bodyPost_ret (res_low rfl _ _ w.heap.size ⟨false, false, false, 0, 0, 0, 0, 0, false⟩ (.slice none 0 0) rfl ?_) rfl (HY.out _ _ ?_ rfl)
    · exact HR1.out.put (lowCs ⟨false, false, false, 0, 0, 0, 0, 0, false⟩ (.slice none 0 0)) rfl
    · exact below_puts (b := w.heap.size) (Nat.le_refl _) 0 (lowCs ⟨false, false, false, 0, 0, 0, 0, 0, false⟩ (.slice none 0 0)) HB1.out
  · rw [if_neg hc] at HC
    go_enter Try.func20, Try.ntmps20
    have HO := Lib.hid (show OB ((w.alloc (.cells #[.bool false, .bool false, .bool false, .int .i64 0, .int .i64 0, .int .i64 0, .int .i64 0, .int .u32 0, .bool false, .slice none 0 0] 25)).alloc (.cells #[] 5)) (w.heap.size + 1) (.slice (some ⟨w.heap.size + 1, 0, none⟩) 0 0) [] by have h := OB.nil (w.alloc (.cells #[.bool false, .bool false, .bool false, .int .i64 0, .int .i64 0, .int .i64 0, .int .i64 0, .int .u32 0, .bool false, .slice none 0 0] 25)); rwa [World.size_alloc] at h)
    have HZ := Lib.hid ((Box.new w #[.bool false, .bool false, .bool false, .int .i64 0, .int .i64 0, .int .i64 0, .int .i64 0, .int .u32 0, .bool false, .slice none 0 0] 25).alloc (.cells #[] 5))
    have HAL := Lib.hid (al2 w (.cells #[.bool false, .bool false, .bool false, .int .i64 0, .int .i64 0, .int .i64 0, .int .i64 0, .int .u32 0, .bool false, .slice none 0 0] 25) (.cells #[] 5))
    go_wp2_with (first
      | (at_builtin
         refine app_by _ elB rfl (.tmp 13) (.tmp 15) rfl rfl HO.out rfl (HC.out.on HAL.out) ?_ ?_ ?_
         (case refine_1 => have := HDM.out; simp; omega)
         (case refine_2 => simp)
         intro v1 w1 hown1 hb1
         have HR1 := Lib.hid (HZ.out.keep hb1 (Nat.lt_succ_self _))
         have HB1 := Lib.hid (HAL.out.trans (hb1.mono (Nat.le_succ _)))
         have hown1' : OB w1 (w.heap.size + 1) v1 k := hown1
         obtain ⟨A1, c1, rfl⟩ := own_slice hown1'
         have HO1 := Lib.hid hown1'
         have h1 := (HB1.out.cell (p := ⟨bb, o, none⟩) hB).trans h0
         obtain ⟨d0, d1, d2, d3, d4, d5, d6, d7, d8, d9⟩ := low_box (p := low0) HR1.out
         obtain ⟨g0, g1, g2, g3, g4, g5, g6, g7, g8, g9⟩ := low_free HR1.out
         dsimp only [low0] at d0 d1 d2 d3 d4 d5 d6 d7 d8
         have z1 := HR1.out.lt
         clear hb1 hown1 hown1'))
    refine bodyPost_ret (res_low rfl _ _ w.heap.size ⟨false, false, false, 0, 0, 0, 0, 0, false⟩ (.slice none 0 0) rfl ?_) rfl (HY.out _ _ ?_ rfl)
    · exact HR1.out.put (lowCs ⟨false, false, false, 0, 0, 0, 0, 0, false⟩ (.slice none 0 0)) rfl
    · exact below_puts (b := w.heap.size) (Nat.le_refl _) 0 (lowCs ⟨false, false, false, 0, 0, 0, 0, 0, false⟩ (.slice none 0 0)) HB1.out

set_option maxRecDepth 100000 in
set_option maxHeartbeats 4000000 in
theorem rtdecode_long (l : List UInt8) (hl : 0 < l.length) (hlm : l.length ≤ 140737488355328) (hk : b0 l = 0) (h7 : 7 < l.length) (v : Value) (w : World) (hb : BS w w.heap.size v l) : Calls Try.prog 20 #[.bool true, v] w (RDecPost w true l) := by
  obtain ⟨bb, o, c, rfl, hB, hnc, hcm, h0⟩ := first_cell hb hl
  have HBS := Lib.hid hb
  have HC := Lib.hid (rest_cut hb hl)
  have hB' : bb < w.heap.size + 1 := by omega
  have hdl : (l.drop 1).length = l.length - 1 := List.length_drop ..
  have hdm : (l.drop 1).length ≤ 140737488355328 := by rw [hdl]; exact Nat.le_trans (Nat.sub_le _ _) hlm
  have h255 := b0_lt l
  have HY := Lib.hid (show ∀ (e : Ending) (w' : World), Below w.heap.size w w' → e = .returned (.tuple #[lowV ⟨false, false, false, 0, 0, 0, 0, 0, false⟩ (.slice none 0 0), .int .i64 4]) → RDecPost w true l e w' from fun e w' h1 h2 => RDecPost.err (show ldE true l = 4 by exact ld_err hl (show cE l = 4 by unfold cE; rw [if_neg (by omega), if_neg (by omega), if_neg (by omega), if_pos h7]) (by decide)) (by omega) h1 h2)
  generalize hQ : RDecPost w true l = Q at *
  clear hQ
  obtain ⟨y, hy⟩ : ∃ y, y = leVal ((l.drop 1).take 2) := ⟨_, rfl⟩
  have hy16 : y < 65536 := by have := leVal_le l 1 2; omega
  have VC := Lib.hid (show ∀ W : World, Below w.heap.size w W → Calls Try.prog 41 #[.slice (some ⟨bb, o + 1, none⟩) 2 (c - 1)] W fun e w' => e = .returned (.int .u64 (y : Nat)) ∧ W = w' by
    intro W hW
    have hp := hb.piece (k := 1) (m := 3) (by omega) (by omega) (by omega)
    have hpl : ((l.drop 1).take 2).length = 2 := by rw [List.length_take, List.length_drop]; omega
    have h := value_any ((l.drop 1).take 2) (some ⟨bb, o + 1, none⟩) (c - 1) W w.heap.size (by rw [hpl]; exact hp.below hW) (by omega)
    rw [hpl, ← hy] at h
    exact h)
  rw [hk] at h0
  rw [if_neg (show ¬ c = 1 by omega)] at HC
  have hc1 : ¬ c = 1 := by omega
  have hc7 : (7 : Int) ≤ (c : Int) := by omega
  have hcn : (l.length : Int) ≤ (c : Int) := by omega
  have hwy : IntKind.i64.wrap (y : Int) = (y : Int) := IntWalk.i64_in _ (by omega)
  unfold maxLen at hcm
  have h7' : (7 : Int) < (l.length : Int) := by omega
  clear hy
  generalize hnn : l.length = n at *
  have HN := Lib.hid hnn
  have HDM := Lib.hid hdm
  generalize l.drop 1 = k at *
  clear hb hnn hdl hdm hlm
  go_enter Try.func20, Try.ntmps20
  have HO := Lib.hid (show OB ((w.alloc (.cells #[.bool false, .bool false, .bool false, .int .i64 0, .int .i64 0, .int .i64 0, .int .i64 0, .int .u32 0, .bool false, .slice none 0 0] 25)).alloc (.cells #[] 5)) (w.heap.size + 1) (.slice (some ⟨w.heap.size + 1, 0, none⟩) 0 0) [] by have h := OB.nil (w.alloc (.cells #[.bool false, .bool false, .bool false, .int .i64 0, .int .i64 0, .int .i64 0, .int .i64 0, .int .u32 0, .bool false, .slice none 0 0] 25)); rwa [World.size_alloc] at h)
  have HZ := Lib.hid ((Box.new w #[.bool false, .bool false, .bool false, .int .i64 0, .int .i64 0, .int .i64 0, .int .i64 0, .int .u32 0, .bool false, .slice none 0 0] 25).alloc (.cells #[] 5))
  have HAL := Lib.hid (al2 w (.cells #[.bool false, .bool false, .bool false, .int .i64 0, .int .i64 0, .int .i64 0, .int .i64 0, .int .u32 0, .bool false, .slice none 0 0] 25) (.cells #[] 5))
  go_wp2_with (first
    | (at_builtin
       refine app_by _ elB rfl (.tmp 13) (.tmp 15) rfl rfl HO.out rfl (HC.out.on HAL.out) ?_ ?_ ?_
       (case refine_1 => have := HDM.out; simp; omega)
       (case refine_2 => simp)
       intro v1 w1 hown1 hb1
       have HR1 := Lib.hid (HZ.out.keep hb1 (Nat.lt_succ_self _))
       have HB1 := Lib.hid (HAL.out.trans (hb1.mono (Nat.le_succ _)))
       have hown1' : OB w1 (w.heap.size + 1) v1 k := hown1
       obtain ⟨A1, c1, rfl⟩ := own_slice hown1'
       have HO1 := Lib.hid hown1'
       have h1 := (HB1.out.cell (p := ⟨bb, o, none⟩) hB).trans h0
       obtain ⟨d0, d1, d2, d3, d4, d5, d6, d7, d8, d9⟩ := low_box (p := low0) HR1.out
       obtain ⟨g0, g1, g2, g3, g4, g5, g6, g7, g8, g9⟩ := low_free HR1.out
       dsimp only [low0] at d0 d1 d2 d3 d4 d5 d6 d7 d8
       have z1 := HR1.out.lt
       clear hb1 hown1 hown1'))
  refine (VC.out _ HB1.out).mono ?_
  rintro e w2 ⟨rfl, rfl⟩
  go_wp2_with fail
  refine bodyPost_ret (res_low rfl _ _ w.heap.size ⟨false, false, false, 0, 0, 0, 0, 0, false⟩ (.slice none 0 0) rfl ?_) rfl (HY.out _ _ ?_ rfl)
  · exact HR1.out.put (lowCs ⟨false, false, false, 0, 0, 0, 0, 0, false⟩ (.slice none 0 0)) rfl
  · exact below_puts (b := w.heap.size) (Nat.le_refl _) 0 (lowCs ⟨false, false, false, 0, 0, 0, 0, 0, false⟩ (.slice none 0 0)) HB1.out

set_option maxRecDepth 100000 in
set_option maxHeartbeats 4000000 in
theorem rtdecode_syn (l : List UInt8) (hl : 0 < l.length) (hlm : l.length ≤ 140737488355328) (hk : b0 l = 0) (h7 : l.length = 7) (h16 : 16384 ≤ leVal ((l.drop 1).take 2)) (v : Value) (w : World) (hb : BS w w.heap.size v l) : Calls Try.prog 20 #[.bool true, v] w (RDecPost w true l) := by
  obtain ⟨bb, o, c, rfl, hB, hnc, hcm, h0⟩ := first_cell hb hl
  have HBS := Lib.hid hb
  have HC := Lib.hid (rest_cut hb hl)
  have hB' : bb < w.heap.size + 1 := by omega
  have hdl : (l.drop 1).length = l.length - 1 := List.length_drop ..
  have hdm : (l.drop 1).length ≤ 140737488355328 := by rw [hdl]; exact Nat.le_trans (Nat.sub_le _ _) hlm
  have h255 := b0_lt l
  have HY := Lib.hid (show ∀ (e : Ending) (w' : World), Below w.heap.size w w' → e = .returned (.tuple #[lowV ⟨false, false, false, 0, 0, 0, 0, 0, false⟩ (.slice none 0 0), .int .i64 2]) → RDecPost w true l e w' from fun e w' h1 h2 => RDecPost.err (show ldE true l = 2 by exact ld_err hl (show cE l = 2 by unfold cE; rw [if_neg (by omega), if_neg (by omega), if_neg (by omega), if_neg (by omega), if_pos h16]) (by decide)) (by omega) h1 h2)
  generalize hQ : RDecPost w true l = Q at *
  clear hQ
  obtain ⟨y, hy⟩ : ∃ y, y = leVal ((l.drop 1).take 2) := ⟨_, rfl⟩
  have hy16 : y < 65536 := by have := leVal_le l 1 2; omega
  have VC := Lib.hid (show ∀ W : World, Below w.heap.size w W → Calls Try.prog 41 #[.slice (some ⟨bb, o + 1, none⟩) 2 (c - 1)] W fun e w' => e = .returned (.int .u64 (y : Nat)) ∧ W = w' by
    intro W hW
    have hp := hb.piece (k := 1) (m := 3) (by omega) (by omega) (by omega)
    have hpl : ((l.drop 1).take 2).length = 2 := by rw [List.length_take, List.length_drop]; omega
    have h := value_any ((l.drop 1).take 2) (some ⟨bb, o + 1, none⟩) (c - 1) W w.heap.size (by rw [hpl]; exact hp.below hW) (by omega)
    rw [hpl, ← hy] at h
    exact h)
  rw [hk] at h0
  rw [if_neg (show ¬ c = 1 by omega)] at HC
  have hc1 : ¬ c = 1 := by omega
  have hc7 : (7 : Int) ≤ (c : Int) := by omega
  have hcn : (l.length : Int) ≤ (c : Int) := by omega
  have hwy : IntKind.i64.wrap (y : Int) = (y : Int) := IntWalk.i64_in _ (by omega)
  unfold maxLen at hcm
  rw [← hy] at h16
  have h16' : (16384 : Int) ≤ (y : Int) := by omega
  clear hy h16
  generalize hnn : l.length = n at *
  have HN := Lib.hid hnn
  have HDM := Lib.hid hdm
  generalize l.drop 1 = k at *
  clear hb hnn hdl hdm hlm
  subst h7
  go_enter Try.func20, Try.ntmps20
  have HO := Lib.hid (show OB ((w.alloc (.cells #[.bool false, .bool false, .bool false, .int .i64 0, .int .i64 0, .int .i64 0, .int .i64 0, .int .u32 0, .bool false, .slice none 0 0] 25)).alloc (.cells #[] 5)) (w.heap.size + 1) (.slice (some ⟨w.heap.size + 1, 0, none⟩) 0 0) [] by have h := OB.nil (w.alloc (.cells #[.bool false, .bool false, .bool false, .int .i64 0, .int .i64 0, .int .i64 0, .int .i64 0, .int .u32 0, .bool false, .slice none 0 0] 25)); rwa [World.size_alloc] at h)
  have HZ := Lib.hid ((Box.new w #[.bool false, .bool false, .bool false, .int .i64 0, .int .i64 0, .int .i64 0, .int .i64 0, .int .u32 0, .bool false, .slice none 0 0] 25).alloc (.cells #[] 5))
  have HAL := Lib.hid (al2 w (.cells #[.bool false, .bool false, .bool false, .int .i64 0, .int .i64 0, .int .i64 0, .int .i64 0, .int .u32 0, .bool false, .slice none 0 0] 25) (.cells #[] 5))
  go_wp2_with (first
    | (at_builtin
       refine app_by _ elB rfl (.tmp 13) (.tmp 15) rfl rfl HO.out rfl (HC.out.on HAL.out) ?_ ?_ ?_
       (case refine_1 => have := HDM.out; simp; omega)
       (case refine_2 => simp)
       intro v1 w1 hown1 hb1
       have HR1 := Lib.hid (HZ.out.keep hb1 (Nat.lt_succ_self _))
       have HB1 := Lib.hid (HAL.out.trans (hb1.mono (Nat.le_succ _)))
       have hown1' : OB w1 (w.heap.size + 1) v1 k := hown1
       obtain ⟨A1, c1, rfl⟩ := own_slice hown1'
       have HO1 := Lib.hid hown1'
       have h1 := (HB1.out.cell (p := ⟨bb, o, none⟩) hB).trans h0
       obtain ⟨d0, d1, d2, d3, d4, d5, d6, d7, d8, d9⟩ := low_box (p := low0) HR1.out
       obtain ⟨g0, g1, g2, g3, g4, g5, g6, g7, g8, g9⟩ := low_free HR1.out
       dsimp only [low0] at d0 d1 d2 d3 d4 d5 d6 d7 d8
       have z1 := HR1.out.lt
       clear hb1 hown1 hown1'))
  refine (VC.out _ HB1.out).mono ?_
  rintro e w2 ⟨rfl, rfl⟩
  go_wp2_with fail
  refine bodyPost_ret (res_low rfl _ _ w.heap.size ⟨false, false, false, 0, 0, 0, 0, 0, false⟩ (.slice none 0 0) rfl ?_) rfl (HY.out _ _ ?_ rfl)
  · exact HR1.out.put (lowCs ⟨false, false, false, 0, 0, 0, 0, 0, false⟩ (.slice none 0 0)) rfl
  · exact below_puts (b := w.heap.size) (Nat.le_refl _) 0 (lowCs ⟨false, false, false, 0, 0, 0, 0, 0, false⟩ (.slice none 0 0)) HB1.out

set_option maxRecDepth 100000 in
set_option maxHeartbeats 4000000 in
theorem rtdecode_ack (l : List UInt8) (hl : 0 < l.length) (hlm : l.length ≤ 140737488355328) (hk : b0 l = 0) (h7 : l.length = 7) (h16 : leVal ((l.drop 1).take 2) < 16384) (v : Value) (w : World) (hb : BS w w.heap.size v l) : Calls Try.prog 20 #[.bool true, v] w (RDecPost w true l) := by
  obtain ⟨bb, o, c, rfl, hB, hnc, hcm, h0⟩ := first_cell hb hl
  have HBS := Lib.hid hb
  have HC := Lib.hid (rest_cut hb hl)
  have hB' : bb < w.heap.size + 1 := by omega
  have hdl : (l.drop 1).length = l.length - 1 := List.length_drop ..
  have hdm : (l.drop 1).length ≤ 140737488355328 := by rw [hdl]; exact Nat.le_trans (Nat.sub_le _ _) hlm
  have h255 := b0_lt l
  obtain ⟨ck, hck⟩ : ∃ ck, ck = chkL ⟨true, false, false, ((leVal ((l.drop 1).take 2) : Nat) : Int) % 8192, 0, 0, 0, leVal ((l.drop 3).take 4), decide ((8192 : Int) ≤ ((leVal ((l.drop 1).take 2) : Nat) : Int))⟩ (([] : List UInt8)).length := ⟨_, rfl⟩
  have hld : ldE true l = ck := by rw [hck]; exact ld_ok hl (show cE l = 0 by unfold cE; rw [if_neg (by omega), if_neg (by omega), if_neg (by omega), if_neg (by omega), if_neg (by omega)]) (show cL l = _ by unfold cL; rw [if_neg (by omega)]) (show cB l = [] by unfold cB; rw [if_neg (by omega)])
  have HX := Lib.hid (show ∀ (e : Ending) (w' : World) A c, ck = 0 → Below w.heap.size w w' → e = .returned (.tuple #[lowV ⟨true, false, false, ((leVal ((l.drop 1).take 2) : Nat) : Int) % 8192, 0, 0, 0, leVal ((l.drop 3).take 4), decide ((8192 : Int) ≤ ((leVal ((l.drop 1).take 2) : Nat) : Int))⟩ (.slice A (([] : List UInt8)).length c), .int .i64 0]) → BS w' w'.heap.size (.slice A (([] : List UInt8)).length c) (([] : List UInt8)) → RDecPost w true l e w' from fun e w' A c h0 h1 h2 h3 => RDecPost.ok (hld.trans h0) (show cL l = _ by unfold cL; rw [if_neg (by omega)]) (show cB l = [] by unfold cB; rw [if_neg (by omega)]) rfl h1 h2 h3)
  have HY := Lib.hid (show ∀ (e : Ending) (w' : World), ck ≠ 0 → Below w.heap.size w w' → e = .returned (.tuple #[lowV ⟨false, false, false, 0, 0, 0, 0, 0, false⟩ (.slice none 0 0), .int .i64 ck]) → RDecPost w true l e w' from fun e w' h0 h1 h2 => RDecPost.err hld h0 h1 h2)
  have CV := Lib.hid (show ∀ A c w, Calls Try.prog 40 #[lowV ⟨true, false, false, ((leVal ((l.drop 1).take 2) : Nat) : Int) % 8192, 0, 0, 0, leVal ((l.drop 3).take 4), decide ((8192 : Int) ≤ ((leVal ((l.drop 1).take 2) : Nat) : Int))⟩ (.slice A (([] : List UInt8)).length c)] w (ValidPost w ⟨true, false, false, ((leVal ((l.drop 1).take 2) : Nat) : Int) % 8192, 0, 0, 0, leVal ((l.drop 3).take 4), decide ((8192 : Int) ≤ ((leVal ((l.drop 1).take 2) : Nat) : Int))⟩ A (([] : List UInt8)).length c ck) from fun A c w => by rw [hck]; exact rvalid_any ⟨true, false, false, ((leVal ((l.drop 1).take 2) : Nat) : Int) % 8192, 0, 0, 0, leVal ((l.drop 3).take 4), decide ((8192 : Int) ≤ ((leVal ((l.drop 1).take 2) : Nat) : Int))⟩ A (([] : List UInt8)).length c w)
  clear hld hck
  generalize hQ : RDecPost w true l = Q at *
  clear hQ
  obtain ⟨y, hy⟩ : ∃ y, y = leVal ((l.drop 1).take 2) := ⟨_, rfl⟩
  have hy16 : y < 65536 := by have := leVal_le l 1 2; omega
  have VC := Lib.hid (show ∀ W : World, Below w.heap.size w W → Calls Try.prog 41 #[.slice (some ⟨bb, o + 1, none⟩) 2 (c - 1)] W fun e w' => e = .returned (.int .u64 (y : Nat)) ∧ W = w' by
    intro W hW
    have hp := hb.piece (k := 1) (m := 3) (by omega) (by omega) (by omega)
    have hpl : ((l.drop 1).take 2).length = 2 := by rw [List.length_take, List.length_drop]; omega
    have h := value_any ((l.drop 1).take 2) (some ⟨bb, o + 1, none⟩) (c - 1) W w.heap.size (by rw [hpl]; exact hp.below hW) (by omega)
    rw [hpl, ← hy] at h
    exact h)
  obtain ⟨z, hz⟩ : ∃ z, z = leVal ((l.drop 3).take 4) := ⟨_, rfl⟩
  have hz32 : z < 4294967296 := by have := leVal_le l 3 4; omega
  have VD := Lib.hid (show ∀ W : World, Below w.heap.size w W → Calls Try.prog 41 #[.slice (some ⟨bb, o + 3, none⟩) 4 (c - 3)] W fun e w' => e = .returned (.int .u64 (z : Nat)) ∧ W = w' by
    intro W hW
    have hp := hb.piece (k := 3) (m := 7) (by omega) (by omega) (by omega)
    have hpl : ((l.drop 3).take 4).length = 4 := by rw [List.length_take, List.length_drop]; omega
    have h := value_any ((l.drop 3).take 4) (some ⟨bb, o + 3, none⟩) (c - 3) W w.heap.size (by rw [hpl]; exact hp.below hW) (by omega)
    rw [hpl, ← hz] at h
    exact h)
  rw [← hy] at h16 HX CV
  rw [← hz] at HX CV
  rw [hk] at h0
  rw [if_neg (show ¬ c = 1 by omega)] at HC
  have hc1 : ¬ c = 1 := by omega
  have hc7 : (7 : Int) ≤ (c : Int) := by omega
  have hcn : (l.length : Int) ≤ (c : Int) := by omega
  have hwy : IntKind.i64.wrap (y : Int) = (y : Int) := IntWalk.i64_in _ (by omega)
  unfold maxLen at hcm
  have hc3 : ¬ c = 3 := by omega
  have hyn : decide ((16384 : Int) ≤ (y : Int)) = false := decide_eq_false (by omega)
  have hyn' : ¬ ((16384 : Int) ≤ (y : Int)) := by omega
  have hwz := wr32 (show z ≤ 4294967295 by omega)
  clear hy h16 hz
  generalize hnn : l.length = n at *
  have HN := Lib.hid hnn
  have HDM := Lib.hid hdm
  generalize l.drop 1 = k at *
  clear hb hnn hdl hdm hlm
  subst h7
  go_enter Try.func20, Try.ntmps20
  have HO := Lib.hid (show OB ((w.alloc (.cells #[.bool false, .bool false, .bool false, .int .i64 0, .int .i64 0, .int .i64 0, .int .i64 0, .int .u32 0, .bool false, .slice none 0 0] 25)).alloc (.cells #[] 5)) (w.heap.size + 1) (.slice (some ⟨w.heap.size + 1, 0, none⟩) 0 0) [] by have h := OB.nil (w.alloc (.cells #[.bool false, .bool false, .bool false, .int .i64 0, .int .i64 0, .int .i64 0, .int .i64 0, .int .u32 0, .bool false, .slice none 0 0] 25)); rwa [World.size_alloc] at h)
  have HZ := Lib.hid ((Box.new w #[.bool false, .bool false, .bool false, .int .i64 0, .int .i64 0, .int .i64 0, .int .i64 0, .int .u32 0, .bool false, .slice none 0 0] 25).alloc (.cells #[] 5))
  have HAL := Lib.hid (al2 w (.cells #[.bool false, .bool false, .bool false, .int .i64 0, .int .i64 0, .int .i64 0, .int .i64 0, .int .u32 0, .bool false, .slice none 0 0] 25) (.cells #[] 5))
  go_wp2_with (first
    | (at_builtin
       refine app_by _ elB rfl (.tmp 13) (.tmp 15) rfl rfl HO.out rfl (HC.out.on HAL.out) ?_ ?_ ?_
       (case refine_1 => have := HDM.out; simp; omega)
       (case refine_2 => simp)
       intro v1 w1 hown1 hb1
       have HR1 := Lib.hid (HZ.out.keep hb1 (Nat.lt_succ_self _))
       have HB1 := Lib.hid (HAL.out.trans (hb1.mono (Nat.le_succ _)))
       have hown1' : OB w1 (w.heap.size + 1) v1 k := hown1
       obtain ⟨A1, c1, rfl⟩ := own_slice hown1'
       have HO1 := Lib.hid hown1'
       have h1 := (HB1.out.cell (p := ⟨bb, o, none⟩) hB).trans h0
       obtain ⟨d0, d1, d2, d3, d4, d5, d6, d7, d8, d9⟩ := low_box (p := low0) HR1.out
       obtain ⟨g0, g1, g2, g3, g4, g5, g6, g7, g8, g9⟩ := low_free HR1.out
       dsimp only [low0] at d0 d1 d2 d3 d4 d5 d6 d7 d8
       have z1 := HR1.out.lt
       clear hb1 hown1 hown1'))
  refine (VC.out _ HB1.out).mono ?_
  rintro e w2 ⟨rfl, rfl⟩
  go_wp2_with fail
  refine (VD.out _ HB1.out).mono ?_
  rintro e w2 ⟨rfl, rfl⟩
  go_wp2_with fail
  refine (CV.out none 0 _).mono ?_
  rintro e w2 ⟨hb2, q, A2, n2, c2, rfl, hq0, hq1⟩
  have HR2 := Lib.hid (HR1.out.on hb2)
  have HB2 := Lib.hid (bthen HB1.out hb2)
  obtain ⟨d0, d1, d2, d3, d4, d5, d6, d7, d8, d9⟩ := low_box (p := low0) HR2.out
  obtain ⟨g0, g1, g2, g3, g4, g5, g6, g7, g8, g9⟩ := low_free HR2.out
  dsimp only [low0] at d0 d1 d2 d3 d4 d5 d6 d7 d8
  have z2 := HR2.out.lt
  clear hb2
  by_cases hck : ck = 0
  · obtain ⟨rfl, rfl, rfl, rfl⟩ := hq0 hck
    obtain rfl := hck
    go_wp2_with fail
    refine bodyPost_ret (res_low rfl _ _ w.heap.size ⟨true, false, false, (y : Int) % 8192, 0, 0, 0, z, decide ((8192 : Int) ≤ (y : Int))⟩ (.slice none 0 0) rfl ?_) rfl (HX.out _ _ none 0 (by first | rfl | trivial) ?_ rfl (BS.nil _ _))
    · exact HR2.out.put (lowCs ⟨true, false, false, (y : Int) % 8192, 0, 0, 0, z, decide ((8192 : Int) ≤ (y : Int))⟩ (.slice none 0 0)) rfl
    · exact below_puts (b := w.heap.size) (Nat.le_refl _) 0 (lowCs ⟨true, false, false, (y : Int) % 8192, 0, 0, 0, z, decide ((8192 : Int) ≤ (y : Int))⟩ (.slice none 0 0)) HB2.out
  · obtain ⟨rfl, rfl, rfl, rfl⟩ := hq1 hck
    have HCK := Lib.hid hck
    clear hck hq0 hq1
    go_wp2_with fail
    refine bodyPost_ret (res_low rfl _ _ w.heap.size ⟨false, false, false, 0, 0, 0, 0, 0, false⟩ (.slice none 0 0) rfl ?_) rfl (HY.out _ _ HCK.out ?_ rfl)
    · exact HR2.out.put (lowCs ⟨false, false, false, 0, 0, 0, 0, 0, false⟩ (.slice none 0 0)) rfl
    · exact below_puts (b := w.heap.size) (Nat.le_refl _) 0 (lowCs ⟨false, false, false, 0, 0, 0, 0, 0, false⟩ (.slice none 0 0)) HB2.out

set_option maxRecDepth 100000 in
set_option maxHeartbeats 4000000 in
theorem rtdecode_bits (l : List UInt8) (hl : 0 < l.length) (hlm : l.length ≤ 140737488355328) (hk : b0 l % 64 ≠ 0) (v : Value) (w : World) (hb : BS w w.heap.size v l) : Calls Try.prog 20 #[.bool false, v] w (RDecPost w false l) := by
  obtain ⟨bb, o, c, rfl, hB, hnc, hcm, h0⟩ := first_cell hb hl
  have HBS := Lib.hid hb
  have HC := Lib.hid (rest_cut hb hl)
  have hB' : bb < w.heap.size + 1 := by omega
  have hdl : (l.drop 1).length = l.length - 1 := List.length_drop ..
  have hdm : (l.drop 1).length ≤ 140737488355328 := by rw [hdl]; exact Nat.le_trans (Nat.sub_le _ _) hlm
  have h255 := b0_lt l
  have HY := Lib.hid (show ∀ (e : Ending) (w' : World), Below w.heap.size w w' → e = .returned (.tuple #[lowV ⟨false, false, false, 0, 0, 0, 0, 0, false⟩ (.slice none 0 0), .int .i64 2]) → RDecPost w false l e w' from fun e w' h1 h2 => RDecPost.err (show ldE false l = 2 by exact ld_err hl (show aE l = 2 by unfold aE; rw [if_pos hk]) (by decide)) (by omega) h1 h2)
  generalize hQ : RDecPost w false l = Q at *
  clear hQ
  have hx : (((b0 l : Nat) : Int) % 64 != 0) = true := by simp; omega
  generalize b0 l = x at *
  clear hk
  generalize hnn : l.length = n at *
  have HN := Lib.hid hnn
  have HDM := Lib.hid hdm
  generalize l.drop 1 = k at *
  clear hb hnn hdl hdm hlm
  by_cases hc : c = 1
  · subst hc
    rw [if_pos rfl] at HC
    obtain rfl : n = 1 := by omega
    go_enter Try.func20, Try.ntmps20
    have HO := Lib.hid (show OB ((w.alloc (.cells #[.bool false, .bool false, .bool false, .int .i64 0, .int .i64 0, .int .i64 0, .int .i64 0, .int .u32 0, .bool false, .slice none 0 0] 25)).alloc (.cells #[] 5)) (w.heap.size + 1) (.slice (some ⟨w.heap.size + 1, 0, none⟩) 0 0) [] by have h := OB.nil (w.alloc (.cells #[.bool false, .bool false, .bool false, .int .i64 0, .int .i64 0, .int .i64 0, .int .i64 0, .int .u32 0, .bool false, .slice none 0 0] 25)); rwa [World.size_alloc] at h)
    have HZ := Lib.hid ((Box.new w #[.bool false, .bool false, .bool false, .int .i64 0, .int .i64 0, .int .i64 0, .int .i64 0, .int .u32 0, .bool false, .slice none 0 0] 25).alloc (.cells #[] 5))
    have HAL := Lib.hid (al2 w (.cells #[.bool false, .bool false, .bool false, .int .i64 0, .int .i64 0, .int .i64 0, .int .i64 0, .int .u32 0, .bool false, .slice none 0 0] 25) (.cells #[] 5))
    go_wp2_with (first
      | (at_builtin
         refine app_by _ elB rfl (.tmp 13) (.tmp 15) rfl rfl HO.out rfl (HC.out.on HAL.out) ?_ ?_ ?_
         (case refine_1 => have := HDM.out; simp; omega)
         (case refine_2 => simp)
         intro v1 w1 hown1 hb1
         have HR1 := Lib.hid (HZ.out.keep hb1 (Nat.lt_succ_self _))
         have HB1 := Lib.hid (HAL.out.trans (hb1.mono (Nat.le_succ _)))
         have hown1' : OB w1 (w.heap.size + 1) v1 k := hown1
         obtain ⟨A1, c1, rfl⟩ := own_slice hown1'
         have HO1 := Lib.hid hown1'
         have h1 := (HB1.out.cell (p := ⟨bb, o, none⟩) hB).trans h0
         obtain ⟨d0, d1, d2, d3, d4, d5, d6, d7, d8, d9⟩ := low_box (p := low0) HR1.out
         obtain ⟨g0, g1, g2, g3, g4, g5, g6, g7, g8, g9⟩ := low_free HR1.out
         dsimp only [low0] at d0 d1 d2 d3 d4 d5 d6 d7 d8
         have z1 := HR1.out.lt
         clear hb1 hown1 hown1'))
    refine bodyPost_ret (res_low rfl _ _ w.heap.size ⟨false, false, false, 0, 0, 0, 0, 0, false⟩ (.slice none 0 0) rfl ?_) rfl (HY.out _ _ ?_ rfl)
    · exact HR1.out.put (lowCs ⟨false, false, false, 0, 0, 0, 0, 0, false⟩ (.slice none 0 0)) rfl
    · exact below_puts (b := w.heap.size) (Nat.le_refl _) 0 (lowCs ⟨false, false, false, 0, 0, 0, 0, 0, false⟩ (.slice none 0 0)) HB1.out
  · rw [if_neg hc] at HC
    go_enter Try.func20, Try.ntmps20
    have HO := Lib.hid (show OB ((w.alloc (.cells #[.bool false, .bool false, .bool false, .int .i64 0, .int .i64 0, .int .i64 0, .int .i64 0, .int .u32 0, .bool false, .slice none 0 0] 25)).alloc (.cells #[] 5)) (w.heap.size + 1) (.slice (some ⟨w.heap.size + 1, 0, none⟩) 0 0) [] by have h := OB.nil (w.alloc (.cells #[.bool false, .bool false, .bool false, .int .i64 0, .int .i64 0, .int .i64 0, .int .i64 0, .int .u32 0, .bool false, .slice none 0 0] 25)); rwa [World.size_alloc] at h)
    have HZ := Lib.hid ((Box.new w #[.bool false, .bool false, .bool false, .int .i64 0, .int .i64 0, .int .i64 0, .int .i64 0, .int .u32 0, .bool false, .slice none 0 0] 25).alloc (.cells #[] 5))
    have HAL := Lib.hid (al2 w (.cells #[.bool false, .bool false, .bool false, .int .i64 0, .int .i64 0, .int .i64 0, .int .i64 0, .int .u32 0, .bool false, .slice none 0 0] 25) (.cells #[] 5))
    go_wp2_with (first
      | (at_builtin
         refine app_by _ elB rfl (.tmp 13) (.tmp 15) rfl rfl HO.out rfl (HC.out.on HAL.out) ?_ ?_ ?_
         (case refine_1 => have := HDM.out; simp; omega)
         (case refine_2 => simp)
         intro v1 w1 hown1 hb1
         have HR1 := Lib.hid (HZ.out.keep hb1 (Nat.lt_succ_self _))
         have HB1 := Lib.hid (HAL.out.trans (hb1.mono (Nat.le_succ _)))
         have hown1' : OB w1 (w.heap.size + 1) v1 k := hown1
         obtain ⟨A1, c1, rfl⟩ := own_slice hown1'
         have HO1 := Lib.hid hown1'
         have h1 := (HB1.out.cell (p := ⟨bb, o, none⟩) hB).trans h0
         obtain ⟨d0, d1, d2, d3, d4, d5, d6, d7, d8, d9⟩ := low_box (p := low0) HR1.out
         obtain ⟨g0, g1, g2, g3, g4, g5, g6, g7, g8, g9⟩ := low_free HR1.out
         dsimp only [low0] at d0 d1 d2 d3 d4 d5 d6 d7 d8
         have z1 := HR1.out.lt
         clear hb1 hown1 hown1'))
    refine bodyPost_ret (res_low rfl _ _ w.heap.size ⟨false, false, false, 0, 0, 0, 0, 0, false⟩ (.slice none 0 0) rfl ?_) rfl (HY.out _ _ ?_ rfl)
    · exact HR1.out.put (lowCs ⟨false, false, false, 0, 0, 0, 0, 0, false⟩ (.slice none 0 0)) rfl
    · exact below_puts (b := w.heap.size) (Nat.le_refl _) 0 (lowCs ⟨false, false, false, 0, 0, 0, 0, 0, false⟩ (.slice none 0 0)) HB1.out

set_option maxRecDepth 100000 in
set_option maxHeartbeats 4000000 in
theorem rtdecode_0 (l : List UInt8) (hl : 0 < l.length) (hlm : l.length ≤ 140737488355328) (hk : b0 l = 0) (v : Value) (w : World) (hb : BS w w.heap.size v l) : Calls Try.prog 20 #[.bool false, v] w (RDecPost w false l) := by
  obtain ⟨bb, o, c, rfl, hB, hnc, hcm, h0⟩ := first_cell hb hl
  have HBS := Lib.hid hb
  have HC := Lib.hid (rest_cut hb hl)
  have hB' : bb < w.heap.size + 1 := by omega
  have hdl : (l.drop 1).length = l.length - 1 := List.length_drop ..
  have hdm : (l.drop 1).length ≤ 140737488355328 := by rw [hdl]; exact Nat.le_trans (Nat.sub_le _ _) hlm
  have h255 := b0_lt l
  obtain ⟨ck, hck⟩ : ∃ ck, ck = chkL ⟨false, false, false, 0, 0, 0, 0, 0, false⟩ (l.drop 1).length := ⟨_, rfl⟩
  have hld : ldE false l = ck := by rw [hck]; exact ld_ok hl (show aE l = 0 by unfold aE; rw [hk]; rfl) (show aL l = _ by unfold aL; rw [hk]; rfl) (show aB l = _ by unfold aB; rw [hk]; rfl)
  have HX := Lib.hid (show ∀ (e : Ending) (w' : World) A c, ck = 0 → Below w.heap.size w w' → e = .returned (.tuple #[lowV ⟨false, false, false, 0, 0, 0, 0, 0, false⟩ (.slice A (l.drop 1).length c), .int .i64 0]) → BS w' w'.heap.size (.slice A (l.drop 1).length c) (l.drop 1) → RDecPost w false l e w' from fun e w' A c h0 h1 h2 h3 => RDecPost.ok (hld.trans h0) (show aL l = _ by unfold aL; rw [hk]; rfl) (show aB l = _ by unfold aB; rw [hk]; rfl) rfl h1 h2 h3)
  have HY := Lib.hid (show ∀ (e : Ending) (w' : World), ck ≠ 0 → Below w.heap.size w w' → e = .returned (.tuple #[lowV ⟨false, false, false, 0, 0, 0, 0, 0, false⟩ (.slice none 0 0), .int .i64 ck]) → RDecPost w false l e w' from fun e w' h0 h1 h2 => RDecPost.err hld h0 h1 h2)
  have CV := Lib.hid (show ∀ A c w, Calls Try.prog 40 #[lowV ⟨false, false, false, 0, 0, 0, 0, 0, false⟩ (.slice A (l.drop 1).length c)] w (ValidPost w ⟨false, false, false, 0, 0, 0, 0, 0, false⟩ A (l.drop 1).length c ck) from fun A c w => by rw [hck]; exact rvalid_any ⟨false, false, false, 0, 0, 0, 0, 0, false⟩ A (l.drop 1).length c w)
  clear hld hck
  generalize hQ : RDecPost w false l = Q at *
  clear hQ
  rw [hk] at h0
  clear hk
  generalize hnn : l.length = n at *
  have HN := Lib.hid hnn
  have HDM := Lib.hid hdm
  generalize l.drop 1 = k at *
  clear hb hnn hdl hdm hlm
  by_cases hc : c = 1
  · subst hc
    rw [if_pos rfl] at HC
    obtain rfl : n = 1 := by omega
    go_enter Try.func20, Try.ntmps20
    have HO := Lib.hid (show OB ((w.alloc (.cells #[.bool false, .bool false, .bool false, .int .i64 0, .int .i64 0, .int .i64 0, .int .i64 0, .int .u32 0, .bool false, .slice none 0 0] 25)).alloc (.cells #[] 5)) (w.heap.size + 1) (.slice (some ⟨w.heap.size + 1, 0, none⟩) 0 0) [] by have h := OB.nil (w.alloc (.cells #[.bool false, .bool false, .bool false, .int .i64 0, .int .i64 0, .int .i64 0, .int .i64 0, .int .u32 0, .bool false, .slice none 0 0] 25)); rwa [World.size_alloc] at h)
    have HZ := Lib.hid ((Box.new w #[.bool false, .bool false, .bool false, .int .i64 0, .int .i64 0, .int .i64 0, .int .i64 0, .int .u32 0, .bool false, .slice none 0 0] 25).alloc (.cells #[] 5))
    have HAL := Lib.hid (al2 w (.cells #[.bool false, .bool false, .bool false, .int .i64 0, .int .i64 0, .int .i64 0, .int .i64 0, .int .u32 0, .bool false, .slice none 0 0] 25) (.cells #[] 5))
    go_wp2_with (first
      | (at_builtin
         refine app_by _ elB rfl (.tmp 13) (.tmp 15) rfl rfl HO.out rfl (HC.out.on HAL.out) ?_ ?_ ?_
         (case refine_1 => have := HDM.out; simp; omega)
         (case refine_2 => simp)
         intro v1 w1 hown1 hb1
         have HR1 := Lib.hid (HZ.out.keep hb1 (Nat.lt_succ_self _))
         have HB1 := Lib.hid (HAL.out.trans (hb1.mono (Nat.le_succ _)))
         have hown1' : OB w1 (w.heap.size + 1) v1 k := hown1
         obtain ⟨A1, c1, rfl⟩ := own_slice hown1'
         have HO1 := Lib.hid hown1'
         have h1 := (HB1.out.cell (p := ⟨bb, o, none⟩) hB).trans h0
         obtain ⟨d0, d1, d2, d3, d4, d5, d6, d7, d8, d9⟩ := low_box (p := low0) HR1.out
         obtain ⟨g0, g1, g2, g3, g4, g5, g6, g7, g8, g9⟩ := low_free HR1.out
         dsimp only [low0] at d0 d1 d2 d3 d4 d5 d6 d7 d8
         have z1 := HR1.out.lt
         clear hb1 hown1 hown1'))
    refine (CV.out A1 c1 _).mono ?_
    rintro e w2 ⟨hb2, q, A2, n2, c2, rfl, hq0, hq1⟩
    have HR2 := Lib.hid (HR1.out.on hb2)
    have HB2 := Lib.hid (bthen HB1.out hb2)
    have HO2 := Lib.hid (own_on HO1.out hb2)
    obtain ⟨d0, d1, d2, d3, d4, d5, d6, d7, d8, d9⟩ := low_box (p := low0) HR2.out
    obtain ⟨g0, g1, g2, g3, g4, g5, g6, g7, g8, g9⟩ := low_free HR2.out
    dsimp only [low0] at d0 d1 d2 d3 d4 d5 d6 d7 d8
    have z2 := HR2.out.lt
    clear hb2
    by_cases hck : ck = 0
    · obtain ⟨rfl, rfl, rfl, rfl⟩ := hq0 hck
      obtain rfl := hck
      go_wp2_with fail
      refine bodyPost_ret (res_low rfl _ _ w.heap.size ⟨false, false, false, 0, 0, 0, 0, 0, false⟩ (.slice A2 k.length c2) rfl ?_) rfl (HX.out _ _ A2 c2 (by first | rfl | trivial) ?_ rfl ?_)
      · exact HR2.out.put (lowCs ⟨false, false, false, 0, 0, 0, 0, 0, false⟩ (.slice A2 k.length c2)) rfl
      · exact below_puts (b := w.heap.size) (Nat.le_refl _) 0 (lowCs ⟨false, false, false, 0, 0, 0, 0, 0, false⟩ (.slice A2 k.length c2)) HB2.out
      · exact BS.of_own rfl (own_puts HO2.out (b := w.heap.size) (fun g hg => by have := (HO2.out.lt g hg).1; omega) 0 (lowCs ⟨false, false, false, 0, 0, 0, 0, 0, false⟩ (.slice A2 k.length c2)))
    · obtain ⟨rfl, rfl, rfl, rfl⟩ := hq1 hck
      have HCK := Lib.hid hck
      clear hck hq0 hq1
      go_wp2_with fail
      refine bodyPost_ret (res_low rfl _ _ w.heap.size ⟨false, false, false, 0, 0, 0, 0, 0, false⟩ (.slice none 0 0) rfl ?_) rfl (HY.out _ _ HCK.out ?_ rfl)
      · exact HR2.out.put (lowCs ⟨false, false, false, 0, 0, 0, 0, 0, false⟩ (.slice none 0 0)) rfl
      · exact below_puts (b := w.heap.size) (Nat.le_refl _) 0 (lowCs ⟨false, false, false, 0, 0, 0, 0, 0, false⟩ (.slice none 0 0)) HB2.out
  · rw [if_neg hc] at HC
    go_enter Try.func20, Try.ntmps20
    have HO := Lib.hid (show OB ((w.alloc (.cells #[.bool false, .bool false, .bool false, .int .i64 0, .int .i64 0, .int .i64 0, .int .i64 0, .int .u32 0, .bool false, .slice none 0 0] 25)).alloc (.cells #[] 5)) (w.heap.size + 1) (.slice (some ⟨w.heap.size + 1, 0, none⟩) 0 0) [] by have h := OB.nil (w.alloc (.cells #[.bool false, .bool false, .bool false, .int .i64 0, .int .i64 0, .int .i64 0, .int .i64 0, .int .u32 0, .bool false, .slice none 0 0] 25)); rwa [World.size_alloc] at h)
    have HZ := Lib.hid ((Box.new w #[.bool false, .bool false, .bool false, .int .i64 0, .int .i64 0, .int .i64 0, .int .i64 0, .int .u32 0, .bool false, .slice none 0 0] 25).alloc (.cells #[] 5))
    have HAL := Lib.hid (al2 w (.cells #[.bool false, .bool false, .bool false, .int .i64 0, .int .i64 0, .int .i64 0, .int .i64 0, .int .u32 0, .bool false, .slice none 0 0] 25) (.cells #[] 5))
    go_wp2_with (first
      | (at_builtin
         refine app_by _ elB rfl (.tmp 13) (.tmp 15) rfl rfl HO.out rfl (HC.out.on HAL.out) ?_ ?_ ?_
         (case refine_1 => have := HDM.out; simp; omega)
         (case refine_2 => simp)
         intro v1 w1 hown1 hb1
         have HR1 := Lib.hid (HZ.out.keep hb1 (Nat.lt_succ_self _))
         have HB1 := Lib.hid (HAL.out.trans (hb1.mono (Nat.le_succ _)))
         have hown1' : OB w1 (w.heap.size + 1) v1 k := hown1
         obtain ⟨A1, c1, rfl⟩ := own_slice hown1'
         have HO1 := Lib.hid hown1'
         have h1 := (HB1.out.cell (p := ⟨bb, o, none⟩) hB).trans h0
         obtain ⟨d0, d1, d2, d3, d4, d5, d6, d7, d8, d9⟩ := low_box (p := low0) HR1.out
         obtain ⟨g0, g1, g2, g3, g4, g5, g6, g7, g8, g9⟩ := low_free HR1.out
         dsimp only [low0] at d0 d1 d2 d3 d4 d5 d6 d7 d8
         have z1 := HR1.out.lt
         clear hb1 hown1 hown1'))
    refine (CV.out A1 c1 _).mono ?_
    rintro e w2 ⟨hb2, q, A2, n2, c2, rfl, hq0, hq1⟩
    have HR2 := Lib.hid (HR1.out.on hb2)
    have HB2 := Lib.hid (bthen HB1.out hb2)
    have HO2 := Lib.hid (own_on HO1.out hb2)
    obtain ⟨d0, d1, d2, d3, d4, d5, d6, d7, d8, d9⟩ := low_box (p := low0) HR2.out
    obtain ⟨g0, g1, g2, g3, g4, g5, g6, g7, g8, g9⟩ := low_free HR2.out
    dsimp only [low0] at d0 d1 d2 d3 d4 d5 d6 d7 d8
    have z2 := HR2.out.lt
    clear hb2
    by_cases hck : ck = 0
    · obtain ⟨rfl, rfl, rfl, rfl⟩ := hq0 hck
      obtain rfl := hck
      go_wp2_with fail
      refine bodyPost_ret (res_low rfl _ _ w.heap.size ⟨false, false, false, 0, 0, 0, 0, 0, false⟩ (.slice A2 k.length c2) rfl ?_) rfl (HX.out _ _ A2 c2 (by first | rfl | trivial) ?_ rfl ?_)
      · exact HR2.out.put (lowCs ⟨false, false, false, 0, 0, 0, 0, 0, false⟩ (.slice A2 k.length c2)) rfl
      · exact below_puts (b := w.heap.size) (Nat.le_refl _) 0 (lowCs ⟨false, false, false, 0, 0, 0, 0, 0, false⟩ (.slice A2 k.length c2)) HB2.out
      · exact BS.of_own rfl (own_puts HO2.out (b := w.heap.size) (fun g hg => by have := (HO2.out.lt g hg).1; omega) 0 (lowCs ⟨false, false, false, 0, 0, 0, 0, 0, false⟩ (.slice A2 k.length c2)))
    · obtain ⟨rfl, rfl, rfl, rfl⟩ := hq1 hck
      have HCK := Lib.hid hck
      clear hck hq0 hq1
      go_wp2_with fail
      refine bodyPost_ret (res_low rfl _ _ w.heap.size ⟨false, false, false, 0, 0, 0, 0, 0, false⟩ (.slice none 0 0) rfl ?_) rfl (HY.out _ _ HCK.out ?_ rfl)
      · exact HR2.out.put (lowCs ⟨false, false, false, 0, 0, 0, 0, 0, false⟩ (.slice none 0 0)) rfl
      · exact below_puts (b := w.heap.size) (Nat.le_refl _) 0 (lowCs ⟨false, false, false, 0, 0, 0, 0, 0, false⟩ (.slice none 0 0)) HB2.out

set_option maxRecDepth 100000 in
set_option maxHeartbeats 4000000 in
theorem rtdecode_64 (l : List UInt8) (hl : 0 < l.length) (hlm : l.length ≤ 140737488355328) (hk : b0 l = 64) (v : Value) (w : World) (hb : BS w w.heap.size v l) : Calls Try.prog 20 #[.bool false, v] w (RDecPost w false l) := by
  obtain ⟨bb, o, c, rfl, hB, hnc, hcm, h0⟩ := first_cell hb hl
  have HBS := Lib.hid hb
  have HC := Lib.hid (rest_cut hb hl)
  have hB' : bb < w.heap.size + 1 := by omega
  have hdl : (l.drop 1).length = l.length - 1 := List.length_drop ..
  have hdm : (l.drop 1).length ≤ 140737488355328 := by rw [hdl]; exact Nat.le_trans (Nat.sub_le _ _) hlm
  have h255 := b0_lt l
  obtain ⟨ck, hck⟩ : ∃ ck, ck = chkL ⟨false, false, true, 0, 0, 0, 0, 0, false⟩ (l.drop 1).length := ⟨_, rfl⟩
  have hld : ldE false l = ck := by rw [hck]; exact ld_ok hl (show aE l = 0 by unfold aE; rw [hk]; rfl) (show aL l = _ by unfold aL; rw [hk]; rfl) (show aB l = _ by unfold aB; rw [hk]; rfl)
  have HX := Lib.hid (show ∀ (e : Ending) (w' : World) A c, ck = 0 → Below w.heap.size w w' → e = .returned (.tuple #[lowV ⟨false, false, true, 0, 0, 0, 0, 0, false⟩ (.slice A (l.drop 1).length c), .int .i64 0]) → BS w' w'.heap.size (.slice A (l.drop 1).length c) (l.drop 1) → RDecPost w false l e w' from fun e w' A c h0 h1 h2 h3 => RDecPost.ok (hld.trans h0) (show aL l = _ by unfold aL; rw [hk]; rfl) (show aB l = _ by unfold aB; rw [hk]; rfl) rfl h1 h2 h3)
  have HY := Lib.hid (show ∀ (e : Ending) (w' : World), ck ≠ 0 → Below w.heap.size w w' → e = .returned (.tuple #[lowV ⟨false, false, false, 0, 0, 0, 0, 0, false⟩ (.slice none 0 0), .int .i64 ck]) → RDecPost w false l e w' from fun e w' h0 h1 h2 => RDecPost.err hld h0 h1 h2)
  have CV := Lib.hid (show ∀ A c w, Calls Try.prog 40 #[lowV ⟨false, false, true, 0, 0, 0, 0, 0, false⟩ (.slice A (l.drop 1).length c)] w (ValidPost w ⟨false, false, true, 0, 0, 0, 0, 0, false⟩ A (l.drop 1).length c ck) from fun A c w => by rw [hck]; exact rvalid_any ⟨false, false, true, 0, 0, 0, 0, 0, false⟩ A (l.drop 1).length c w)
  clear hld hck
  generalize hQ : RDecPost w false l = Q at *
  clear hQ
  rw [hk] at h0
  clear hk
  generalize hnn : l.length = n at *
  have HN := Lib.hid hnn
  have HDM := Lib.hid hdm
  generalize l.drop 1 = k at *
  clear hb hnn hdl hdm hlm
  by_cases hc : c = 1
  · subst hc
    rw [if_pos rfl] at HC
    obtain rfl : n = 1 := by omega
    go_enter Try.func20, Try.ntmps20
    have HO := Lib.hid (show OB ((w.alloc (.cells #[.bool false, .bool false, .bool false, .int .i64 0, .int .i64 0, .int .i64 0, .int .i64 0, .int .u32 0, .bool false, .slice none 0 0] 25)).alloc (.cells #[] 5)) (w.heap.size + 1) (.slice (some ⟨w.heap.size + 1, 0, none⟩) 0 0) [] by have h := OB.nil (w.alloc (.cells #[.bool false, .bool false, .bool false, .int .i64 0, .int .i64 0, .int .i64 0, .int .i64 0, .int .u32 0, .bool false, .slice none 0 0] 25)); rwa [World.size_alloc] at h)
    have HZ := Lib.hid ((Box.new w #[.bool false, .bool false, .bool false, .int .i64 0, .int .i64 0, .int .i64 0, .int .i64 0, .int .u32 0, .bool false, .slice none 0 0] 25).alloc (.cells #[] 5))
    have HAL := Lib.hid (al2 w (.cells #[.bool false, .bool false, .bool false, .int .i64 0, .int .i64 0, .int .i64 0, .int .i64 0, .int .u32 0, .bool false, .slice none 0 0] 25) (.cells #[] 5))
    go_wp2_with (first
      | (at_builtin
         refine app_by _ elB rfl (.tmp 13) (.tmp 15) rfl rfl HO.out rfl (HC.out.on HAL.out) ?_ ?_ ?_
         (case refine_1 => have := HDM.out; simp; omega)
         (case refine_2 => simp)
         intro v1 w1 hown1 hb1
         have HR1 := Lib.hid (HZ.out.keep hb1 (Nat.lt_succ_self _))
         have HB1 := Lib.hid (HAL.out.trans (hb1.mono (Nat.le_succ _)))
         have hown1' : OB w1 (w.heap.size + 1) v1 k := hown1
         obtain ⟨A1, c1, rfl⟩ := own_slice hown1'
         have HO1 := Lib.hid hown1'
         have h1 := (HB1.out.cell (p := ⟨bb, o, none⟩) hB).trans h0
         obtain ⟨d0, d1, d2, d3, d4, d5, d6, d7, d8, d9⟩ := low_box (p := low0) HR1.out
         obtain ⟨g0, g1, g2, g3, g4, g5, g6, g7, g8, g9⟩ := low_free HR1.out
         dsimp only [low0] at d0 d1 d2 d3 d4 d5 d6 d7 d8
         have z1 := HR1.out.lt
         clear hb1 hown1 hown1'))
    refine (CV.out A1 c1 _).mono ?_
    rintro e w2 ⟨hb2, q, A2, n2, c2, rfl, hq0, hq1⟩
    have HR2 := Lib.hid (HR1.out.on hb2)
    have HB2 := Lib.hid (bthen HB1.out hb2)
    have HO2 := Lib.hid (own_on HO1.out hb2)
    obtain ⟨d0, d1, d2, d3, d4, d5, d6, d7, d8, d9⟩ := low_box (p := low0) HR2.out
    obtain ⟨g0, g1, g2, g3, g4, g5, g6, g7, g8, g9⟩ := low_free HR2.out
    dsimp only [low0] at d0 d1 d2 d3 d4 d5 d6 d7 d8
    have z2 := HR2.out.lt
    clear hb2
    by_cases hck : ck = 0
    · obtain ⟨rfl, rfl, rfl, rfl⟩ := hq0 hck
      obtain rfl := hck
      go_wp2_with fail
      refine bodyPost_ret (res_low rfl _ _ w.heap.size ⟨false, false, true, 0, 0, 0, 0, 0, false⟩ (.slice A2 k.length c2) rfl ?_) rfl (HX.out _ _ A2 c2 (by first | rfl | trivial) ?_ rfl ?_)
      · exact HR2.out.put (lowCs ⟨false, false, true, 0, 0, 0, 0, 0, false⟩ (.slice A2 k.length c2)) rfl
      · exact below_puts (b := w.heap.size) (Nat.le_refl _) 0 (lowCs ⟨false, false, true, 0, 0, 0, 0, 0, false⟩ (.slice A2 k.length c2)) HB2.out
      · exact BS.of_own rfl (own_puts HO2.out (b := w.heap.size) (fun g hg => by have := (HO2.out.lt g hg).1; omega) 0 (lowCs ⟨false, false, true, 0, 0, 0, 0, 0, false⟩ (.slice A2 k.length c2)))
    · obtain ⟨rfl, rfl, rfl, rfl⟩ := hq1 hck
      have HCK := Lib.hid hck
      clear hck hq0 hq1
      go_wp2_with fail
      refine bodyPost_ret (res_low rfl _ _ w.heap.size ⟨false, false, false, 0, 0, 0, 0, 0, false⟩ (.slice none 0 0) rfl ?_) rfl (HY.out _ _ HCK.out ?_ rfl)
      · exact HR2.out.put (lowCs ⟨false, false, false, 0, 0, 0, 0, 0, false⟩ (.slice none 0 0)) rfl
      · exact below_puts (b := w.heap.size) (Nat.le_refl _) 0 (lowCs ⟨false, false, false, 0, 0, 0, 0, 0, false⟩ (.slice none 0 0)) HB2.out
  · rw [if_neg hc] at HC
    go_enter Try.func20, Try.ntmps20
    have HO := Lib.hid (show OB ((w.alloc (.cells #[.bool false, .bool false, .bool false, .int .i64 0, .int .i64 0, .int .i64 0, .int .i64 0, .int .u32 0, .bool false, .slice none 0 0] 25)).alloc (.cells #[] 5)) (w.heap.size + 1) (.slice (some ⟨w.heap.size + 1, 0, none⟩) 0 0) [] by have h := OB.nil (w.alloc (.cells #[.bool false, .bool false, .bool false, .int .i64 0, .int .i64 0, .int .i64 0, .int .i64 0, .int .u32 0, .bool false, .slice none 0 0] 25)); rwa [World.size_alloc] at h)
    have HZ := Lib.hid ((Box.new w #[.bool false, .bool false, .bool false, .int .i64 0, .int .i64 0, .int .i64 0, .int .i64 0, .int .u32 0, .bool false, .slice none 0 0] 25).alloc (.cells #[] 5))
    have HAL := Lib.hid (al2 w (.cells #[.bool false, .bool false, .bool false, .int .i64 0, .int .i64 0, .int .i64 0, .int .i64 0, .int .u32 0, .bool false, .slice none 0 0] 25) (.cells #[] 5))
    go_wp2_with (first
      | (at_builtin
         refine app_by _ elB rfl (.tmp 13) (.tmp 15) rfl rfl HO.out rfl (HC.out.on HAL.out) ?_ ?_ ?_
         (case refine_1 => have := HDM.out; simp; omega)
         (case refine_2 => simp)
         intro v1 w1 hown1 hb1
         have HR1 := Lib.hid (HZ.out.keep hb1 (Nat.lt_succ_self _))
         have HB1 := Lib.hid (HAL.out.trans (hb1.mono (Nat.le_succ _)))
         have hown1' : OB w1 (w.heap.size + 1) v1 k := hown1
         obtain ⟨A1, c1, rfl⟩ := own_slice hown1'
         have HO1 := Lib.hid hown1'
         have h1 := (HB1.out.cell (p := ⟨bb, o, none⟩) hB).trans h0
         obtain ⟨d0, d1, d2, d3, d4, d5, d6, d7, d8, d9⟩ := low_box (p := low0) HR1.out
         obtain ⟨g0, g1, g2, g3, g4, g5, g6, g7, g8, g9⟩ := low_free HR1.out
         dsimp only [low0] at d0 d1 d2 d3 d4 d5 d6 d7 d8
         have z1 := HR1.out.lt
         clear hb1 hown1 hown1'))
    refine (CV.out A1 c1 _).mono ?_
    rintro e w2 ⟨hb2, q, A2, n2, c2, rfl, hq0, hq1⟩
    have HR2 := Lib.hid (HR1.out.on hb2)
    have HB2 := Lib.hid (bthen HB1.out hb2)
    have HO2 := Lib.hid (own_on HO1.out hb2)
    obtain ⟨d0, d1, d2, d3, d4, d5, d6, d7, d8, d9⟩ := low_box (p := low0) HR2.out
    obtain ⟨g0, g1, g2, g3, g4, g5, g6, g7, g8, g9⟩ := low_free HR2.out
    dsimp only [low0] at d0 d1 d2 d3 d4 d5 d6 d7 d8
    have z2 := HR2.out.lt
    clear hb2
    by_cases hck : ck = 0
    · obtain ⟨rfl, rfl, rfl, rfl⟩ := hq0 hck
      obtain rfl := hck
      go_wp2_with fail
      refine bodyPost_ret (res_low rfl _ _ w.heap.size ⟨false, false, true, 0, 0, 0, 0, 0, false⟩ (.slice A2 k.length c2) rfl ?_) rfl (HX.out _ _ A2 c2 (by first | rfl | trivial) ?_ rfl ?_)
      · exact HR2.out.put (lowCs ⟨false, false, true, 0, 0, 0, 0, 0, false⟩ (.slice A2 k.length c2)) rfl
      · exact below_puts (b := w.heap.size) (Nat.le_refl _) 0 (lowCs ⟨false, false, true, 0, 0, 0, 0, 0, false⟩ (.slice A2 k.length c2)) HB2.out
      · exact BS.of_own rfl (own_puts HO2.out (b := w.heap.size) (fun g hg => by have := (HO2.out.lt g hg).1; omega) 0 (lowCs ⟨false, false, true, 0, 0, 0, 0, 0, false⟩ (.slice A2 k.length c2)))
    · obtain ⟨rfl, rfl, rfl, rfl⟩ := hq1 hck
      have HCK := Lib.hid hck
      clear hck hq0 hq1
      go_wp2_with fail
      refine bodyPost_ret (res_low rfl _ _ w.heap.size ⟨false, false, false, 0, 0, 0, 0, 0, false⟩ (.slice none 0 0) rfl ?_) rfl (HY.out _ _ HCK.out ?_ rfl)
      · exact HR2.out.put (lowCs ⟨false, false, false, 0, 0, 0, 0, 0, false⟩ (.slice none 0 0)) rfl
      · exact below_puts (b := w.heap.size) (Nat.le_refl _) 0 (lowCs ⟨false, false, false, 0, 0, 0, 0, 0, false⟩ (.slice none 0 0)) HB2.out

set_option maxRecDepth 100000 in
set_option maxHeartbeats 4000000 in
theorem rtdecode_128s (l : List UInt8) (hl : 0 < l.length) (hlm : l.length ≤ 140737488355328) (hk : b0 l = 128) (h4 : l.length < 4) (v : Value) (w : World) (hb : BS w w.heap.size v l) : Calls Try.prog 20 #[.bool false, v] w (RDecPost w false l) := by
  obtain ⟨bb, o, c, rfl, hB, hnc, hcm, h0⟩ := first_cell hb hl
  have HBS := Lib.hid hb
  have HC := Lib.hid (rest_cut hb hl)
  have hB' : bb < w.heap.size + 1 := by omega
  have hdl : (l.drop 1).length = l.length - 1 := List.length_drop ..
  have hdm : (l.drop 1).length ≤ 140737488355328 := by rw [hdl]; exact Nat.le_trans (Nat.sub_le _ _) hlm
  have h255 := b0_lt l
  have HY := Lib.hid (show ∀ (e : Ending) (w' : World), Below w.heap.size w w' → e = .returned (.tuple #[lowV ⟨false, false, false, 0, 0, 0, 0, 0, false⟩ (.slice none 0 0), .int .i64 3]) → RDecPost w false l e w' from fun e w' h1 h2 => RDecPost.err (show ldE false l = 3 by exact ld_err hl (show aE l = 3 by unfold aE; rw [hk, if_neg (by decide), if_neg (by decide), if_pos h4]) (by decide)) (by omega) h1 h2)
  generalize hQ : RDecPost w false l = Q at *
  clear hQ
  rw [hk] at h0
  have h4' : (l.length : Int) < 4 := by omega
  clear hk
  generalize hnn : l.length = n at *
  have HN := Lib.hid hnn
  have HDM := Lib.hid hdm
  generalize l.drop 1 = k at *
  clear hb hnn hdl hdm hlm
  by_cases hc : c = 1
  · subst hc
    rw [if_pos rfl] at HC
    obtain rfl : n = 1 := by omega
    go_enter Try.func20, Try.ntmps20
    have HO := Lib.hid (show OB ((w.alloc (.cells #[.bool false, .bool false, .bool false, .int .i64 0, .int .i64 0, .int .i64 0, .int .i64 0, .int .u32 0, .bool false, .slice none 0 0] 25)).alloc (.cells #[] 5)) (w.heap.size + 1) (.slice (some ⟨w.heap.size + 1, 0, none⟩) 0 0) [] by have h := OB.nil (w.alloc (.cells #[.bool false, .bool false, .bool false, .int .i64 0, .int .i64 0, .int .i64 0, .int .i64 0, .int .u32 0, .bool false, .slice none 0 0] 25)); rwa [World.size_alloc] at h)
    have HZ := Lib.hid ((Box.new w #[.bool false, .bool false, .bool false, .int .i64 0, .int .i64 0, .int .i64 0, .int .i64 0, .int .u32 0, .bool false, .slice none 0 0] 25).alloc (.cells #[] 5))
    have HAL := Lib.hid (al2 w (.cells #[.bool false, .bool false, .bool false, .int .i64 0, .int .i64 0, .int .i64 0, .int .i64 0, .int .u32 0, .bool false, .slice none 0 0] 25) (.cells #[] 5))
    go_wp2_with (first
      | (at_builtin
         refine app_by _ elB rfl (.tmp 13) (.tmp 15) rfl rfl HO.out rfl (HC.out.on HAL.out) ?_ ?_ ?_
         (case refine_1 => have := HDM.out; simp; omega)
         (case refine_2 => simp)
         intro v1 w1 hown1 hb1
         have HR1 := Lib.hid (HZ.out.keep hb1 (Nat.lt_succ_self _))
         have HB1 := Lib.hid (HAL.out.trans (hb1.mono (Nat.le_succ _)))
         have hown1' : OB w1 (w.heap.size + 1) v1 k := hown1
         obtain ⟨A1, c1, rfl⟩ := own_slice hown1'
         have HO1 := Lib.hid hown1'
         have h1 := (HB1.out.cell (p := ⟨bb, o, none⟩) hB).trans h0
         obtain ⟨d0, d1, d2, d3, d4, d5, d6, d7, d8, d9⟩ := low_box (p := low0) HR1.out
         obtain ⟨g0, g1, g2, g3, g4, g5, g6, g7, g8, g9⟩ := low_free HR1.out
         dsimp only [low0] at d0 d1 d2 d3 d4 d5 d6 d7 d8
         have z1 := HR1.out.lt
         clear hb1 hown1 hown1'))
    refine bodyPost_ret (res_low rfl _ _ w.heap.size ⟨false, false, false, 0, 0, 0, 0, 0, false⟩ (.slice none 0 0) rfl ?_) rfl (HY.out _ _ ?_ rfl)
    · exact HR1.out.put (lowCs ⟨false, false, false, 0, 0, 0, 0, 0, false⟩ (.slice none 0 0)) rfl
    · exact below_puts (b := w.heap.size) (Nat.le_refl _) 0 (lowCs ⟨false, false, false, 0, 0, 0, 0, 0, false⟩ (.slice none 0 0)) HB1.out
  · rw [if_neg hc] at HC
    go_enter Try.func20, Try.ntmps20
    have HO := Lib.hid (show OB ((w.alloc (.cells #[.bool false, .bool false, .bool false, .int .i64 0, .int .i64 0, .int .i64 0, .int .i64 0, .int .u32 0, .bool false, .slice none 0 0] 25)).alloc (.cells #[] 5)) (w.heap.size + 1) (.slice (some ⟨w.heap.size + 1, 0, none⟩) 0 0) [] by have h := OB.nil (w.alloc (.cells #[.bool false, .bool false, .bool false, .int .i64 0, .int .i64 0, .int .i64 0, .int .i64 0, .int .u32 0, .bool false, .slice none 0 0] 25)); rwa [World.size_alloc] at h)
    have HZ := Lib.hid ((Box.new w #[.bool false, .bool false, .bool false, .int .i64 0, .int .i64 0, .int .i64 0, .int .i64 0, .int .u32 0, .bool false, .slice none 0 0] 25).alloc (.cells #[] 5))
    have HAL := Lib.hid (al2 w (.cells #[.bool false, .bool false, .bool false, .int .i64 0, .int .i64 0, .int .i64 0, .int .i64 0, .int .u32 0, .bool false, .slice none 0 0] 25) (.cells #[] 5))
    go_wp2_with (first
      | (at_builtin
         refine app_by _ elB rfl (.tmp 13) (.tmp 15) rfl rfl HO.out rfl (HC.out.on HAL.out) ?_ ?_ ?_
         (case refine_1 => have := HDM.out; simp; omega)
         (case refine_2 => simp)
         intro v1 w1 hown1 hb1
         have HR1 := Lib.hid (HZ.out.keep hb1 (Nat.lt_succ_self _))
         have HB1 := Lib.hid (HAL.out.trans (hb1.mono (Nat.le_succ _)))
         have hown1' : OB w1 (w.heap.size + 1) v1 k := hown1
         obtain ⟨A1, c1, rfl⟩ := own_slice hown1'
         have HO1 := Lib.hid hown1'
         have h1 := (HB1.out.cell (p := ⟨bb, o, none⟩) hB).trans h0
         obtain ⟨d0, d1, d2, d3, d4, d5, d6, d7, d8, d9⟩ := low_box (p := low0) HR1.out
         obtain ⟨g0, g1, g2, g3, g4, g5, g6, g7, g8, g9⟩ := low_free HR1.out
         dsimp only [low0] at d0 d1 d2 d3 d4 d5 d6 d7 d8
         have z1 := HR1.out.lt
         clear hb1 hown1 hown1'))
    refine bodyPost_ret (res_low rfl _ _ w.heap.size ⟨false, false, false, 0, 0, 0, 0, 0, false⟩ (.slice none 0 0) rfl ?_) rfl (HY.out _ _ ?_ rfl)
    · exact HR1.out.put (lowCs ⟨false, false, false, 0, 0, 0, 0, 0, false⟩ (.slice none 0 0)) rfl
    · exact below_puts (b := w.heap.size) (Nat.le_refl _) 0 (lowCs ⟨false, false, false, 0, 0, 0, 0, 0, false⟩ (.slice none 0 0)) HB1.out

set_option maxRecDepth 100000 in
set_option maxHeartbeats 4000000 in
theorem rtdecode_128y (l : List UInt8) (hl : 0 < l.length) (hlm : l.length ≤ 140737488355328) (hk : b0 l = 128) (h4 : 4 ≤ l.length) (h16 : 8388608 ≤ leVal ((l.drop 1).take 3)) (v : Value) (w : World) (hb : BS w w.heap.size v l) : Calls Try.prog 20 #[.bool false, v] w (RDecPost w false l) := by
  obtain ⟨bb, o, c, rfl, hB, hnc, hcm, h0⟩ := first_cell hb hl
  have HBS := Lib.hid hb
  have HC := Lib.hid (rest_cut hb hl)
  have hB' : bb < w.heap.size + 1 := by omega
  have hdl : (l.drop 1).length = l.length - 1 := List.length_drop ..
  have hdm : (l.drop 1).length ≤ 140737488355328 := by rw [hdl]; exact Nat.le_trans (Nat.sub_le _ _) hlm
  have h255 := b0_lt l
  have HY := Lib.hid (show ∀ (e : Ending) (w' : World), Below w.heap.size w w' → e = .returned (.tuple #[lowV ⟨false, false, false, 0, 0, 0, 0, 0, false⟩ (.slice none 0 0), .int .i64 2]) → RDecPost w false l e w' from fun e w' h1 h2 => RDecPost.err (show ldE false l = 2 by exact ld_err hl (show aE l = 2 by unfold aE; rw [hk, if_neg (by decide), if_neg (by decide), if_neg (by omega), if_pos h16]) (by decide)) (by omega) h1 h2)
  generalize hQ : RDecPost w false l = Q at *
  clear hQ
  obtain ⟨y, hy⟩ : ∃ y, y = leVal ((l.drop 1).take 3) := ⟨_, rfl⟩
  have hy16 : y < 16777216 := by have := leVal_le l 1 3; omega
  have VC := Lib.hid (show ∀ W : World, Below w.heap.size w W → Calls Try.prog 41 #[.slice (some ⟨bb, o + 1, none⟩) 3 (c - 1)] W fun e w' => e = .returned (.int .u64 (y : Nat)) ∧ W = w' by
    intro W hW
    have hp := hb.piece (k := 1) (m := 4) (by omega) (by omega) (by omega)
    have hpl : ((l.drop 1).take 3).length = 3 := by rw [List.length_take, List.length_drop]; omega
    have h := value_any ((l.drop 1).take 3) (some ⟨bb, o + 1, none⟩) (c - 1) W w.heap.size (by rw [hpl]; exact hp.below hW) (by omega)
    rw [hpl, ← hy] at h
    exact h)
  rw [hk] at h0
  rw [if_neg (show ¬ c = 1 by omega)] at HC
  have hc1 : ¬ c = 1 := by omega
  have hc4 : (4 : Int) ≤ (c : Int) := by omega
  have hcn : (l.length : Int) ≤ (c : Int) := by omega
  have hwy : IntKind.i64.wrap (y : Int) = (y : Int) := IntWalk.i64_in _ (by omega)
  unfold maxLen at hcm
  have h4' : (4 : Int) ≤ (l.length : Int) := by omega
  have h4'' : decide ((l.length : Int) < 4) = false := decide_eq_false (by omega)
  rw [← hy] at h16
  have h16' : (8388608 : Int) ≤ (y : Int) := by omega
  clear hy h16 hy16 hk
  generalize hnn : l.length = n at *
  have HN := Lib.hid hnn
  have HDM := Lib.hid hdm
  generalize l.drop 1 = k at *
  clear hb hnn hdl hdm hlm
  go_enter Try.func20, Try.ntmps20
  have HO := Lib.hid (show OB ((w.alloc (.cells #[.bool false, .bool false, .bool false, .int .i64 0, .int .i64 0, .int .i64 0, .int .i64 0, .int .u32 0, .bool false, .slice none 0 0] 25)).alloc (.cells #[] 5)) (w.heap.size + 1) (.slice (some ⟨w.heap.size + 1, 0, none⟩) 0 0) [] by have h := OB.nil (w.alloc (.cells #[.bool false, .bool false, .bool false, .int .i64 0, .int .i64 0, .int .i64 0, .int .i64 0, .int .u32 0, .bool false, .slice none 0 0] 25)); rwa [World.size_alloc] at h)
  have HZ := Lib.hid ((Box.new w #[.bool false, .bool false, .bool false, .int .i64 0, .int .i64 0, .int .i64 0, .int .i64 0, .int .u32 0, .bool false, .slice none 0 0] 25).alloc (.cells #[] 5))
  have HAL := Lib.hid (al2 w (.cells #[.bool false, .bool false, .bool false, .int .i64 0, .int .i64 0, .int .i64 0, .int .i64 0, .int .u32 0, .bool false, .slice none 0 0] 25) (.cells #[] 5))
  go_wp2_with (first
    | (at_builtin
       refine app_by _ elB rfl (.tmp 13) (.tmp 15) rfl rfl HO.out rfl (HC.out.on HAL.out) ?_ ?_ ?_
       (case refine_1 => have := HDM.out; simp; omega)
       (case refine_2 => simp)
       intro v1 w1 hown1 hb1
       have HR1 := Lib.hid (HZ.out.keep hb1 (Nat.lt_succ_self _))
       have HB1 := Lib.hid (HAL.out.trans (hb1.mono (Nat.le_succ _)))
       have hown1' : OB w1 (w.heap.size + 1) v1 k := hown1
       obtain ⟨A1, c1, rfl⟩ := own_slice hown1'
       have HO1 := Lib.hid hown1'
       have h1 := (HB1.out.cell (p := ⟨bb, o, none⟩) hB).trans h0
       obtain ⟨d0, d1, d2, d3, d4, d5, d6, d7, d8, d9⟩ := low_box (p := low0) HR1.out
       obtain ⟨g0, g1, g2, g3, g4, g5, g6, g7, g8, g9⟩ := low_free HR1.out
       dsimp only [low0] at d0 d1 d2 d3 d4 d5 d6 d7 d8
       have z1 := HR1.out.lt
       clear hb1 hown1 hown1'))
  refine (VC.out _ HB1.out).mono ?_
  rintro e w2 ⟨rfl, rfl⟩
  go_wp2_with fail
  refine bodyPost_ret (res_low rfl _ _ w.heap.size ⟨false, false, false, 0, 0, 0, 0, 0, false⟩ (.slice none 0 0) rfl ?_) rfl (HY.out _ _ ?_ rfl)
  · exact HR1.out.put (lowCs ⟨false, false, false, 0, 0, 0, 0, 0, false⟩ (.slice none 0 0)) rfl
  · exact below_puts (b := w.heap.size) (Nat.le_refl _) 0 (lowCs ⟨false, false, false, 0, 0, 0, 0, 0, false⟩ (.slice none 0 0)) HB1.out

set_option maxRecDepth 100000 in
set_option maxHeartbeats 4000000 in
theorem rtdecode_192s (l : List UInt8) (hl : 0 < l.length) (hlm : l.length ≤ 140737488355328) (hk : b0 l = 192) (h4 : l.length < 4) (v : Value) (w : World) (hb : BS w w.heap.size v l) : Calls Try.prog 20 #[.bool false, v] w (RDecPost w false l) := by
  obtain ⟨bb, o, c, rfl, hB, hnc, hcm, h0⟩ := first_cell hb hl
  have HBS := Lib.hid hb
  have HC := Lib.hid (rest_cut hb hl)
  have hB' : bb < w.heap.size + 1 := by omega
  have hdl : (l.drop 1).length = l.length - 1 := List.length_drop ..
  have hdm : (l.drop 1).length ≤ 140737488355328 := by rw [hdl]; exact Nat.le_trans (Nat.sub_le _ _) hlm
  have h255 := b0_lt l
  have HY := Lib.hid (show ∀ (e : Ending) (w' : World), Below w.heap.size w w' → e = .returned (.tuple #[lowV ⟨false, false, false, 0, 0, 0, 0, 0, false⟩ (.slice none 0 0), .int .i64 3]) → RDecPost w false l e w' from fun e w' h1 h2 => RDecPost.err (show ldE false l = 3 by exact ld_err hl (show aE l = 3 by unfold aE; rw [hk, if_neg (by decide), if_neg (by decide), if_pos h4]) (by decide)) (by omega) h1 h2)
  generalize hQ : RDecPost w false l = Q at *
  clear hQ
  rw [hk] at h0
  have h4' : (l.length : Int) < 4 := by omega
  clear hk
  generalize hnn : l.length = n at *
  have HN := Lib.hid hnn
  have HDM := Lib.hid hdm
  generalize l.drop 1 = k at *
  clear hb hnn hdl hdm hlm
  by_cases hc : c = 1
  · subst hc
    rw [if_pos rfl] at HC
    obtain rfl : n = 1 := by omega
    go_enter Try.func20, Try.ntmps20
    have HO := Lib.hid (show OB ((w.alloc (.cells #[.bool false, .bool false, .bool false, .int .i64 0, .int .i64 0, .int .i64 0, .int .i64 0, .int .u32 0, .bool false, .slice none 0 0] 25)).alloc (.cells #[] 5)) (w.heap.size + 1) (.slice (some ⟨w.heap.size + 1, 0, none⟩) 0 0) [] by have h := OB.nil (w.alloc (.cells #[.bool false, .bool false, .bool false, .int .i64 0, .int .i64 0, .int .i64 0, .int .i64 0, .int .u32 0, .bool false, .slice none 0 0] 25)); rwa [World.size_alloc] at h)
    have HZ := Lib.hid ((Box.new w #[.bool false, .bool false, .bool false, .int .i64 0, .int .i64 0, .int .i64 0, .int .i64 0, .int .u32 0, .bool false, .slice none 0 0] 25).alloc (.cells #[] 5))
    have HAL := Lib.hid (al2 w (.cells #[.bool false, .bool false, .bool false, .int .i64 0, .int .i64 0, .int .i64 0, .int .i64 0, .int .u32 0, .bool false, .slice none 0 0] 25) (.cells #[] 5))
    go_wp2_with (first
      | (at_builtin
         refine app_by _ elB rfl (.tmp 13) (.tmp 15) rfl rfl HO.out rfl (HC.out.on HAL.out) ?_ ?_ ?_
         (case refine_1 => have := HDM.out; simp; omega)
         (case refine_2 => simp)
         intro v1 w1 hown1 hb1
         have HR1 := Lib.hid (HZ.out.keep hb1 (Nat.lt_succ_self _))
         have HB1 := Lib.hid (HAL.out.trans (hb1.mono (Nat.le_succ _)))
         have hown1' : OB w1 (w.heap.size + 1) v1 k := hown1
         obtain ⟨A1, c1, rfl⟩ := own_slice hown1'
         have HO1 := Lib.hid hown1'
         have h1 := (HB1.out.cell (p := ⟨bb, o, none⟩) hB).trans h0
         obtain ⟨d0, d1, d2, d3, d4, d5, d6, d7, d8, d9⟩ := low_box (p := low0) HR1.out
         obtain ⟨g0, g1, g2, g3, g4, g5, g6, g7, g8, g9⟩ := low_free HR1.out
         dsimp only [low0] at d0 d1 d2 d3 d4 d5 d6 d7 d8
         have z1 := HR1.out.lt
         clear hb1 hown1 hown1'))
    refine bodyPost_ret (res_low rfl _ _ w.heap.size ⟨false, false, false, 0, 0, 0, 0, 0, false⟩ (.slice none 0 0) rfl ?_) rfl (HY.out _ _ ?_ rfl)
    · exact HR1.out.put (lowCs ⟨false, false, false, 0, 0, 0, 0, 0, false⟩ (.slice none 0 0)) rfl
    · exact below_puts (b := w.heap.size) (Nat.le_refl _) 0 (lowCs ⟨false, false, false, 0, 0, 0, 0, 0, false⟩ (.slice none 0 0)) HB1.out
  · rw [if_neg hc] at HC
    go_enter Try.func20, Try.ntmps20
    have HO := Lib.hid (show OB ((w.alloc (.cells #[.bool false, .bool false, .bool false, .int .i64 0, .int .i64 0, .int .i64 0, .int .i64 0, .int .u32 0, .bool false, .slice none 0 0] 25)).alloc (.cells #[] 5)) (w.heap.size + 1) (.slice (some ⟨w.heap.size + 1, 0, none⟩) 0 0) [] by have h := OB.nil (w.alloc (.cells #[.bool false, .bool false, .bool false, .int .i64 0, .int .i64 0, .int .i64 0, .int .i64 0, .int .u32 0, .bool false, .slice none 0 0] 25)); rwa [World.size_alloc] at h)
    have HZ := Lib.hid ((Box.new w #[.bool false, .bool false, .bool false, .int .i64 0, .int .i64 0, .int .i64 0, .int .i64 0, .int .u32 0, .bool false, .slice none 0 0] 25).alloc (.cells #[] 5))
    have HAL := Lib.hid (al2 w (.cells #[.bool false, .bool false, .bool false, .int .i64 0, .int .i64 0, .int .i64 0, .int .i64 0, .int .u32 0, .bool false, .slice none 0 0] 25) (.cells #[] 5))
    go_wp2_with (first
      | (at_builtin
         refine app_by _ elB rfl (.tmp 13) (.tmp 15) rfl rfl HO.out rfl (HC.out.on HAL.out) ?_ ?_ ?_
         (case refine_1 => have := HDM.out; simp; omega)
         (case refine_2 => simp)
         intro v1 w1 hown1 hb1
         have HR1 := Lib.hid (HZ.out.keep hb1 (Nat.lt_succ_self _))
         have HB1 := Lib.hid (HAL.out.trans (hb1.mono (Nat.le_succ _)))
         have hown1' : OB w1 (w.heap.size + 1) v1 k := hown1
         obtain ⟨A1, c1, rfl⟩ := own_slice hown1'
         have HO1 := Lib.hid hown1'
         have h1 := (HB1.out.cell (p := ⟨bb, o, none⟩) hB).trans h0
         obtain ⟨d0, d1, d2, d3, d4, d5, d6, d7, d8, d9⟩ := low_box (p := low0) HR1.out
         obtain ⟨g0, g1, g2, g3, g4, g5, g6, g7, g8, g9⟩ := low_free HR1.out
         dsimp only [low0] at d0 d1 d2 d3 d4 d5 d6 d7 d8
         have z1 := HR1.out.lt
         clear hb1 hown1 hown1'))
    refine bodyPost_ret (res_low rfl _ _ w.heap.size ⟨false, false, false, 0, 0, 0, 0, 0, false⟩ (.slice none 0 0) rfl ?_) rfl (HY.out _ _ ?_ rfl)
    · exact HR1.out.put (lowCs ⟨false, false, false, 0, 0, 0, 0, 0, false⟩ (.slice none 0 0)) rfl
    · exact below_puts (b := w.heap.size) (Nat.le_refl _) 0 (lowCs ⟨false, false, false, 0, 0, 0, 0, 0, false⟩ (.slice none 0 0)) HB1.out

set_option maxRecDepth 100000 in
set_option maxHeartbeats 4000000 in
theorem rtdecode_192y (l : List UInt8) (hl : 0 < l.length) (hlm : l.length ≤ 140737488355328) (hk : b0 l = 192) (h4 : 4 ≤ l.length) (h16 : 8388608 ≤ leVal ((l.drop 1).take 3)) (v : Value) (w : World) (hb : BS w w.heap.size v l) : Calls Try.prog 20 #[.bool false, v] w (RDecPost w false l) := by
  obtain ⟨bb, o, c, rfl, hB, hnc, hcm, h0⟩ := first_cell hb hl
  have HBS := Lib.hid hb
  have HC := Lib.hid (rest_cut hb hl)
  have hB' : bb < w.heap.size + 1 := by omega
  have hdl : (l.drop 1).length = l.length - 1 := List.length_drop ..
  have hdm : (l.drop 1).length ≤ 140737488355328 := by rw [hdl]; exact Nat.le_trans (Nat.sub_le _ _) hlm
  have h255 := b0_lt l
  have HY := Lib.hid (show ∀ (e : Ending) (w' : World), Below w.heap.size w w' → e = .returned (.tuple #[lowV ⟨false, false, false, 0, 0, 0, 0, 0, false⟩ (.slice none 0 0), .int .i64 2]) → RDecPost w false l e w' from fun e w' h1 h2 => RDecPost.err (show ldE false l = 2 by exact ld_err hl (show aE l = 2 by unfold aE; rw [hk, if_neg (by decide), if_neg (by decide), if_neg (by omega), if_pos h16]) (by decide)) (by omega) h1 h2)
  generalize hQ : RDecPost w false l = Q at *
  clear hQ
  obtain ⟨y, hy⟩ : ∃ y, y = leVal ((l.drop 1).take 3) := ⟨_, rfl⟩
  have hy16 : y < 16777216 := by have := leVal_le l 1 3; omega
  have VC := Lib.hid (show ∀ W : World, Below w.heap.size w W → Calls Try.prog 41 #[.slice (some ⟨bb, o + 1, none⟩) 3 (c - 1)] W fun e w' => e = .returned (.int .u64 (y : Nat)) ∧ W = w' by
    intro W hW
    have hp := hb.piece (k := 1) (m := 4) (by omega) (by omega) (by omega)
    have hpl : ((l.drop 1).take 3).length = 3 := by rw [List.length_take, List.length_drop]; omega
    have h := value_any ((l.drop 1).take 3) (some ⟨bb, o + 1, none⟩) (c - 1) W w.heap.size (by rw [hpl]; exact hp.below hW) (by omega)
    rw [hpl, ← hy] at h
    exact h)
  rw [hk] at h0
  rw [if_neg (show ¬ c = 1 by omega)] at HC
  have hc1 : ¬ c = 1 := by omega
  have hc4 : (4 : Int) ≤ (c : Int) := by omega
  have hcn : (l.length : Int) ≤ (c : Int) := by omega
  have hwy : IntKind.i64.wrap (y : Int) = (y : Int) := IntWalk.i64_in _ (by omega)
  unfold maxLen at hcm
  have h4' : (4 : Int) ≤ (l.length : Int) := by omega
  have h4'' : decide ((l.length : Int) < 4) = false := decide_eq_false (by omega)
  rw [← hy] at h16
  have h16' : (8388608 : Int) ≤ (y : Int) := by omega
  clear hy h16 hy16 hk
  generalize hnn : l.length = n at *
  have HN := Lib.hid hnn
  have HDM := Lib.hid hdm
  generalize l.drop 1 = k at *
  clear hb hnn hdl hdm hlm
  go_enter Try.func20, Try.ntmps20
  have HO := Lib.hid (show OB ((w.alloc (.cells #[.bool false, .bool false, .bool false, .int .i64 0, .int .i64 0, .int .i64 0, .int .i64 0, .int .u32 0, .bool false, .slice none 0 0] 25)).alloc (.cells #[] 5)) (w.heap.size + 1) (.slice (some ⟨w.heap.size + 1, 0, none⟩) 0 0) [] by have h := OB.nil (w.alloc (.cells #[.bool false, .bool false, .bool false, .int .i64 0, .int .i64 0, .int .i64 0, .int .i64 0, .int .u32 0, .bool false, .slice none 0 0] 25)); rwa [World.size_alloc] at h)
  have HZ := Lib.hid ((Box.new w #[.bool false, .bool false, .bool false, .int .i64 0, .int .i64 0, .int .i64 0, .int .i64 0, .int .u32 0, .bool false, .slice none 0 0] 25).alloc (.cells #[] 5))
  have HAL := Lib.hid (al2 w (.cells #[.bool false, .bool false, .bool false, .int .i64 0, .int .i64 0, .int .i64 0, .int .i64 0, .int .u32 0, .bool false, .slice none 0 0] 25) (.cells #[] 5))
  go_wp2_with (first
    | (at_builtin
       refine app_by _ elB rfl (.tmp 13) (.tmp 15) rfl rfl HO.out rfl (HC.out.on HAL.out) ?_ ?_ ?_
       (case refine_1 => have := HDM.out; simp; omega)
       (case refine_2 => simp)
       intro v1 w1 hown1 hb1
       have HR1 := Lib.hid (HZ.out.keep hb1 (Nat.lt_succ_self _))
       have HB1 := Lib.hid (HAL.out.trans (hb1.mono (Nat.le_succ _)))
       have hown1' : OB w1 (w.heap.size + 1) v1 k := hown1
       obtain ⟨A1, c1, rfl⟩ := own_slice hown1'
       have HO1 := Lib.hid hown1'
       have h1 := (HB1.out.cell (p := ⟨bb, o, none⟩) hB).trans h0
       obtain ⟨d0, d1, d2, d3, d4, d5, d6, d7, d8, d9⟩ := low_box (p := low0) HR1.out
       obtain ⟨g0, g1, g2, g3, g4, g5, g6, g7, g8, g9⟩ := low_free HR1.out
       dsimp only [low0] at d0 d1 d2 d3 d4 d5 d6 d7 d8
       have z1 := HR1.out.lt
       clear hb1 hown1 hown1'))
  refine (VC.out _ HB1.out).mono ?_
  rintro e w2 ⟨rfl, rfl⟩
  go_wp2_with fail
  refine bodyPost_ret (res_low rfl _ _ w.heap.size ⟨false, false, false, 0, 0, 0, 0, 0, false⟩ (.slice none 0 0) rfl ?_) rfl (HY.out _ _ ?_ rfl)
  · exact HR1.out.put (lowCs ⟨false, false, false, 0, 0, 0, 0, 0, false⟩ (.slice none 0 0)) rfl
  · exact below_puts (b := w.heap.size) (Nat.le_refl _) 0 (lowCs ⟨false, false, false, 0, 0, 0, 0, 0, false⟩ (.slice none 0 0)) HB1.out

end Go.Proofs.Ytkpjinkkjbljkaa
