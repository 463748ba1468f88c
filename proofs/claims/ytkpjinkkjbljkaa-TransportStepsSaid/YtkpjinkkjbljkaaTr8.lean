/- What a payload of the lower transport layer holds; the walk of transport.control. No condition. -/
import Derived.Test.YtkpjinkkjbljkaaTr5
namespace Go.Proofs.Ytkpjinkkjbljkaa
open Go.RowKit

/-- The first byte. -/
def b0 (l : List UInt8) : Nat := (l.getD 0 0).toNat
/-- The error of a control payload that is not empty, ahead of Check. -/
def cE (l : List UInt8) : Int := if 8 < b0 l then 12 else if b0 l ≠ 0 then 0 else if l.length < 7 then 3 else if 7 < l.length then 4 else if 16384 ≤ leVal ((l.drop 1).take 2) then 2 else 0
def cL (l : List UInt8) : Low :=
  if b0 l ≠ 0 then ⟨true, false, false, 0, 0, 0, (b0 l : Int), 0, false⟩
  else ⟨true, false, false, ((leVal ((l.drop 1).take 2) : Nat) : Int) % 8192, 0, 0, 0, leVal ((l.drop 3).take 4), decide ((8192 : Int) ≤ ((leVal ((l.drop 1).take 2) : Nat) : Int))⟩
def cB (l : List UInt8) : List UInt8 := if b0 l ≠ 0 then l.drop 1 else []
/-- The error of an access payload that is not empty, ahead of Check. -/
def aE (l : List UInt8) : Int := if b0 l % 64 ≠ 0 then 2 else if b0 l < 128 then 0 else if l.length < 4 then 3 else if 8388608 ≤ leVal ((l.drop 1).take 3) then 2 else 0
def aL (l : List UInt8) : Low :=
  if b0 l < 128 then ⟨false, false, decide (b0 l = 64), 0, 0, 0, 0, 0, false⟩
  else ⟨false, true, decide (b0 l = 192), ((leVal ((l.drop 1).take 3) : Nat) : Int) % 8192, ((leVal ((l.drop 1).take 3) : Nat) : Int) / 8192 % 32, ((leVal ((l.drop 1).take 3) : Nat) : Int) / 262144, 0, 0, false⟩
def aB (l : List UInt8) : List UInt8 := if b0 l < 128 then l.drop 1 else l.drop 4

/-- What a decoding leaves, ahead of Check. -/
def PrePost (w : World) (er : Int) (p : Low) (l : List UInt8) (e : Ending) (w' : World) : Prop :=
  Below w.heap.size w w' ∧ ∃ q A n c, e = .returned (.tuple #[lowV q (.slice A n c), .int .i64 er]) ∧ (er = 0 → q = p ∧ n = l.length ∧ w'.ownsRow w.heap.size 5 1 (.slice A n c) l.length (bys l))

theorem own_slice {w : World} {base : Nat} {e : TypeId} {size n : Nat} {v : Value} {xs : List Value} (h : w.ownsRow base e size v n xs) : ∃ A c, v = .slice A n c := by
  rcases h.2 with ⟨rfl, rfl⟩ | ⟨g, cap, cur, rfl, _⟩
  · exact ⟨_, _, rfl⟩
  · exact ⟨_, _, rfl⟩
theorem low_free {w : World} {b : Nat} {cs : List Value} (h : Box w b cs) :
    w.frozen? ⟨b, 0, none⟩ = false ∧ w.frozen? ⟨b, 1, none⟩ = false ∧ w.frozen? ⟨b, 2, none⟩ = false ∧ w.frozen? ⟨b, 3, none⟩ = false ∧ w.frozen? ⟨b, 4, none⟩ = false ∧ w.frozen? ⟨b, 5, none⟩ = false ∧ w.frozen? ⟨b, 6, none⟩ = false ∧ w.frozen? ⟨b, 7, none⟩ = false ∧ w.frozen? ⟨b, 8, none⟩ = false ∧ w.frozen? ⟨b, 9, none⟩ = false :=
  ⟨h.free 0, h.free 1, h.free 2, h.free 3, h.free 4, h.free 5, h.free 6, h.free 7, h.free 8, h.free 9⟩
theorem own_away {w : World} {base : Nat} {e : TypeId} {size n : Nat} {v : Value} {xs : List Value} (h : w.ownsRow base e size v n xs) {p : Addr} (hp : p.block < base) (u : Value) : (w.setCell p u).ownsRow base e size v n xs := by
  obtain ⟨h1, h2⟩ := h
  refine ⟨h1, ?_⟩
  rcases h2 with h2 | ⟨g, cap, cur, hv, hg, hh, r⟩
  · exact .inl h2
  · refine .inr ⟨g, cap, cur, hv, hg, ?_, r⟩
    rw [heap_setCell_other _ _ _ _ (by omega)]
    exact hh
/-- A PDU stored into the result's box. -/
theorem low_ret {w Y : World} {cs : List Value} {A : Option Addr} {c base : Nat} {k : List UInt8} (p : Low) (hr : Box Y w.heap.size cs) (hc : cs.length = 10) (hb : Below w.heap.size w Y) (hu : Y.ownsRow base 5 1 (.slice A k.length c) k.length (bys k)) (h1 : w.heap.size < base) :
    Box (Y.setCells w.heap.size 0 (lowCs p (.slice A k.length c))) w.heap.size (lowCs p (.slice A k.length c)) ∧ Below w.heap.size w (Y.setCells w.heap.size 0 (lowCs p (.slice A k.length c))) ∧
      (Y.setCells w.heap.size 0 (lowCs p (.slice A k.length c))).ownsRow w.heap.size 5 1 (.slice A k.length c) k.length (bys k) :=
  ⟨hr.put _ (by simp [hc]), below_puts (Nat.le_refl _) _ _ hb, own_base (own_puts hu (fun g hg => by have := (hu.lt g hg).1; omega) _ _) (Nat.le_of_lt h1)⟩
theorem res_low {fn : Func} {i j : Tmp} (h : fn.results = #[.cell i 25, .tmp j]) (tmps : Array Value) (w : World) (b : Nat) (p : Low) (v : Value) (hp : tmps.getD i undef = .pointer (some ⟨b, 0, none⟩)) (hs : Box w b (lowCs p v)) :
    (results fn tmps).run Try.prog w = .ok (.tuple #[lowV p v, tmps.getD j undef]) w := by
  obtain ⟨c0, c1, c2, c3, c4, c5, c6, c7, c8, c9⟩ := low_box hs
  rw [Array.getD_eq_getD_getElem?] at hp
  simp [results, h, hp, go_sem, c0, c1, c2, c3, c4, c5, c6, c7, c8, c9]
theorem join1 (v : Value) (l : List UInt8) (w : World) (hv : BS w w.heap.size v l) (hl : l.length ≤ 140737488355328) (t : TypeId) :
    Calls Try.prog 35 #[.slice (some ⟨w.heap.size, 0, none⟩) 1 1] (w.alloc (.cells #[v] t)) fun e w' => Below w.heap.size w w' ∧ ∃ x, e = .returned x ∧ w'.ownsRow w.heap.size 5 1 x l.length (bys l) := by
  have h := join_any [v] [l] (some ⟨w.heap.size, 0, none⟩) 1 (w.alloc (.cells #[v] t)) ((Sl.lit (size := 1) w #[v] t 1 rfl (by simp [maxLen])).more (by simp)) ?_ (by simpa using hl) (by simp)
  · refine h.mono fun e w' hh => ?_
    obtain ⟨hb, x, rfl, hx⟩ := hh
    refine ⟨one hb, x, rfl, ?_⟩
    have := own_base hx (show w.heap.size ≤ _ by simp)
    simpa using this
  · refine ⟨rfl, ?_⟩
    intro i x y h1 h2
    match i, h1, h2 with
    | 0, h1, h2 =>
      simp only [List.getElem?_cons_zero, Option.some.injEq] at h1 h2
      subst h1 h2
      exact hv.on (al1 _ _)
theorem b0_eq {l : List UInt8} (h : 0 < l.length) : b0 l = l[0].toNat := by unfold b0; simp [List.getD, h]
/-- The first byte in memory. -/
theorem first_cell {w : World} {B : Nat} {v : Value} {l : List UInt8} (h : BS w B v l) (hl : 0 < l.length) : ∃ b o c, v = .slice (some ⟨b, o, none⟩) l.length c ∧ b < B ∧ l.length ≤ c ∧ c ≤ maxLen ∧ w.cell? ⟨b, o, none⟩ = some (.int .u8 (b0 l : Int)) := by
  obtain ⟨b, o, c, rfl, hB, hn, hcm, d0⟩ := h.at_ (bys_at (k := 0) hl)
  rw [← b0_eq hl] at d0
  exact ⟨b, o, c, rfl, hB, hn, hcm, d0⟩
theorem b0_lt (l : List UInt8) : b0 l ≤ 255 := by have := (l.getD 0 0).toNat_lt; unfold b0; omega

set_option maxRecDepth 100000 in
set_option maxHeartbeats 4000000 in
theorem control_kind (l : List UInt8) (hl : 0 < l.length) (hk : 8 < b0 l) (v : Value) (w : World) (hb : BS w w.heap.size v l) : Calls Try.prog 39 #[v] w (PrePost w (cE l) (cL l) (cB l)) := by
  obtain ⟨bb, o, c, rfl, hB, hnc, _, h0⟩ := first_cell hb hl
  have h255 := b0_lt l
  rw [show cE l = 12 by unfold cE; rw [if_pos hk]]
  generalize cL l = q
  generalize cB l = k
  generalize b0 l = x at *
  have hwr : IntKind.i64.wrap (x : Int) = (x : Int) := IntWalk.i64_in _ (by omega)
  have h9 : (9 : Int) ≤ (x : Int) := by omega
  generalize l.length = n at *
  clear hb h255 hk
  go_enter Try.func39, Try.ntmps39
  go_wp2_with fail
  refine bodyPost_ret (res_low rfl _ _ w.heap.size ⟨true, false, false, 0, 0, 0, (x : Int), 0, false⟩ (.slice none 0 0) rfl ?_) rfl ⟨?_, ?_⟩
  · exact (Box.new w _ _).alloc _
  · exact al2 _ _ _
  · exact ⟨_, _, _, _, rfl, fun h => absurd h (by decide)⟩

set_option maxRecDepth 100000 in
set_option maxHeartbeats 4000000 in
theorem control_none (l : List UInt8) (hl : 0 < l.length) (hk : b0 l = 0) (h7 : l.length ≠ 7) (v : Value) (w : World) (hb : BS w w.heap.size v l) : Calls Try.prog 39 #[v] w (PrePost w (cE l) (cL l) (cB l)) := by
  obtain ⟨bb, o, c, rfl, hB, hnc, _, h0⟩ := first_cell hb hl
  have HE := Lib.hid (show cE l = if l.length < 7 then 3 else 4 by
    unfold cE
    rw [if_neg (by omega), if_neg (by omega)]
    by_cases h : l.length < 7
    · rw [if_pos h, if_pos h]
    · rw [if_neg h, if_neg h, if_pos (by omega)])
  generalize cL l = q
  generalize cB l = k
  generalize cE l = er at *
  rw [hk] at h0
  generalize l.length = n at *
  clear hb hk
  rcases Nat.lt_or_ge n 7 with h | h
  · have h' : (n : Int) < 7 := by omega
    obtain rfl : er = 3 := by rw [HE.out, if_pos h]
    go_enter Try.func39, Try.ntmps39
    go_wp2_with fail
    refine bodyPost_ret (res_low rfl _ _ w.heap.size ⟨true, false, false, 0, 0, 0, 0, 0, false⟩ (.slice none 0 0) rfl ?_) rfl ⟨?_, ?_⟩
    · exact (Box.new w _ _).alloc _
    · exact al2 _ _ _
    · exact ⟨_, _, _, _, rfl, fun h => absurd h (by decide)⟩
  · have h' : (7 : Int) < n := by omega
    have h'' : (7 : Int) ≤ n := by omega
    obtain rfl : er = 4 := by rw [HE.out, if_neg (by omega)]
    go_enter Try.func39, Try.ntmps39
    go_wp2_with fail
    refine bodyPost_ret (res_low rfl _ _ w.heap.size ⟨true, false, false, 0, 0, 0, 0, 0, false⟩ (.slice none 0 0) rfl ?_) rfl ⟨?_, ?_⟩
    · exact (Box.new w _ _).alloc _
    · exact al2 _ _ _
    · exact ⟨_, _, _, _, rfl, fun h => absurd h (by decide)⟩

/-- The bytes behind the first one: 'b[1:]'. -/
theorem rest_cut {w : World} {B b o c : Nat} {l : List UInt8} (h : BS w B (.slice (some ⟨b, o, none⟩) l.length c) l) (hl : 0 < l.length) : BS w B (.slice (some ⟨b, if c = 1 then o else o + 1, none⟩) (l.length - 1) (c - 1)) (l.drop 1) := by
  have := h.cut (k := 1) hl
  by_cases hc : c = 1
  · rw [if_pos hc] at this ⊢; exact this
  · rw [if_neg hc] at this ⊢; exact this

set_option maxRecDepth 100000 in
set_option maxHeartbeats 4000000 in
theorem control_op (l : List UInt8) (hl : 0 < l.length) (hlm : l.length ≤ 140737488355328) (hk : b0 l ≠ 0) (hk8 : b0 l ≤ 8) (v : Value) (w : World) (hb : BS w w.heap.size v l) : Calls Try.prog 39 #[v] w (PrePost w (cE l) (cL l) (cB l)) := by
  obtain ⟨bb, o, c, rfl, hB, hnc, _, h0⟩ := first_cell hb hl
  have HC := Lib.hid (rest_cut hb hl)
  rw [show cE l = 0 by unfold cE; rw [if_neg (by omega), if_pos hk], show cL l = ⟨true, false, false, 0, 0, 0, (b0 l : Int), 0, false⟩ by unfold cL; rw [if_pos hk], show cB l = l.drop 1 by unfold cB; rw [if_pos hk]]
  generalize b0 l = x at *
  have hwr : IntKind.i64.wrap (x : Int) = (x : Int) := IntWalk.i64_in _ (by omega)
  have hx0 : ((x : Int) == 0) = false := by simpa using hk
  have hx1 : ((x : Int) != 0) = true := by simpa using hk
  have hdl : (l.drop 1).length = l.length - 1 := List.length_drop ..
  have hdm : (l.drop 1).length ≤ 140737488355328 := by omega
  generalize hnn : l.length = n at *
  have HN := Lib.hid hnn
  have HDL := Lib.hid hdl
  have HDM := Lib.hid hdm
  generalize l.drop 1 = k at *
  clear hb hk hnn hdl hdm hlm
  by_cases hc : c = 1
  · subst hc
    rw [if_pos rfl] at HC
    obtain rfl : n = 1 := by omega
    go_enter Try.func39, Try.ntmps39
    go_wp2_with fail
    obtain ⟨W, hW⟩ : ∃ W, W = (w.alloc (.cells #[.bool false, .bool false, .bool false, .int .i64 0, .int .i64 0, .int .i64 0, .int .i64 0, .int .u32 0, .bool false, .slice none 0 0] 25)).alloc (.cells #[.bool true, .bool false, .bool false, .int .i64 0, .int .i64 0, .int .i64 0, .int .i64 (x : Int), .int .u32 0, .bool false, .slice none 0 0] 25) := ⟨_, rfl⟩
    have hA : Below w.heap.size w W := by rw [hW]; exact al2 _ _ _
    have hbr : Box W w.heap.size (lowCs low0 (.slice none 0 0)) := by rw [hW]; exact (Box.new _ _ _).alloc _
    have hbl : Box W (w.heap.size + 1) (lowCs ⟨true, false, false, 0, 0, 0, (x : Int), 0, false⟩ (.slice none 0 0)) := by rw [hW]; have h := Box.new (w.alloc (.cells #[.bool false, .bool false, .bool false, .int .i64 0, .int .i64 0, .int .i64 0, .int .i64 0, .int .u32 0, .bool false, .slice none 0 0] 25)) #[.bool true, .bool false, .bool false, .int .i64 0, .int .i64 0, .int .i64 0, .int .i64 (x : Int), .int .u32 0, .bool false, .slice none 0 0] 25; rw [World.size_alloc] at h; exact h
    have hsz : w.heap.size + 1 + 1 = W.heap.size := by rw [hW]; simp
    rw [← hW, hsz]
    clear hW
    refine (join1 _ k W (HC.out.on hA) HDM.out _).mono ?_
    rintro e w3 ⟨hb3, u, rfl, hu⟩
    obtain ⟨A3, c3, rfl⟩ := own_slice hu
    have hbr3 := hbr.on hb3
    have hbl3 := hbl.on hb3
    have HR3 := Lib.hid hbr3
    have HU3 := Lib.hid hu
    have HB3 := Lib.hid (hA.trans (hb3.mono hA.size))
    obtain ⟨e0, e1, e2, e3, e4, e5, e6, e7, e8, e9⟩ := low_box hbl3
    obtain ⟨d0, d1, d2, d3, d4, d5, d6, d7, d8, d9⟩ := low_box hbr3
    have z1 := hbr3.lt
    have z2 := hbl3.lt
    have f9 := hbl3.free 9
    obtain ⟨g0, g1, g2, g3, g4, g5, g6, g7, g8, g9⟩ := low_free hbr3
    dsimp only [low0] at d0 d1 d2 d3 d4 d5 d6 d7 d8 e0 e1 e2 e3 e4 e5 e6 e7 e8
    have hz : w.heap.size + 1 < W.heap.size := by omega
    clear hb3 hu hbr hbl hbr3 hbl3 hA hsz
    go_wp2_with fail
    obtain ⟨q1, q2, q3⟩ := low_ret (w := w) ⟨true, false, false, 0, 0, 0, (x : Int), 0, false⟩ (HR3.out.far (p := ⟨w.heap.size + 1, 9, none⟩) (by simp) (.slice A3 k.length c3)) rfl (HB3.out.setCell (p := ⟨w.heap.size + 1, 9, none⟩) (by simp) (.slice A3 k.length c3)) (own_away HU3.out (p := ⟨w.heap.size + 1, 9, none⟩) hz (.slice A3 k.length c3)) (by omega)
    exact bodyPost_ret (res_low rfl _ _ w.heap.size ⟨true, false, false, 0, 0, 0, (x : Int), 0, false⟩ (.slice A3 k.length c3) rfl q1) rfl ⟨q2, _, A3, k.length, c3, rfl, fun _ => ⟨rfl, rfl, q3⟩⟩
  · rw [if_neg hc] at HC
    go_enter Try.func39, Try.ntmps39
    go_wp2_with fail
    obtain ⟨W, hW⟩ : ∃ W, W = (w.alloc (.cells #[.bool false, .bool false, .bool false, .int .i64 0, .int .i64 0, .int .i64 0, .int .i64 0, .int .u32 0, .bool false, .slice none 0 0] 25)).alloc (.cells #[.bool true, .bool false, .bool false, .int .i64 0, .int .i64 0, .int .i64 0, .int .i64 (x : Int), .int .u32 0, .bool false, .slice none 0 0] 25) := ⟨_, rfl⟩
    have hA : Below w.heap.size w W := by rw [hW]; exact al2 _ _ _
    have hbr : Box W w.heap.size (lowCs low0 (.slice none 0 0)) := by rw [hW]; exact (Box.new _ _ _).alloc _
    have hbl : Box W (w.heap.size + 1) (lowCs ⟨true, false, false, 0, 0, 0, (x : Int), 0, false⟩ (.slice none 0 0)) := by rw [hW]; have h := Box.new (w.alloc (.cells #[.bool false, .bool false, .bool false, .int .i64 0, .int .i64 0, .int .i64 0, .int .i64 0, .int .u32 0, .bool false, .slice none 0 0] 25)) #[.bool true, .bool false, .bool false, .int .i64 0, .int .i64 0, .int .i64 0, .int .i64 (x : Int), .int .u32 0, .bool false, .slice none 0 0] 25; rw [World.size_alloc] at h; exact h
    have hsz : w.heap.size + 1 + 1 = W.heap.size := by rw [hW]; simp
    rw [← hW, hsz]
    clear hW
    refine (join1 _ k W (HC.out.on hA) HDM.out _).mono ?_
    rintro e w3 ⟨hb3, u, rfl, hu⟩
    obtain ⟨A3, c3, rfl⟩ := own_slice hu
    have hbr3 := hbr.on hb3
    have hbl3 := hbl.on hb3
    have HR3 := Lib.hid hbr3
    have HU3 := Lib.hid hu
    have HB3 := Lib.hid (hA.trans (hb3.mono hA.size))
    obtain ⟨e0, e1, e2, e3, e4, e5, e6, e7, e8, e9⟩ := low_box hbl3
    obtain ⟨d0, d1, d2, d3, d4, d5, d6, d7, d8, d9⟩ := low_box hbr3
    have z1 := hbr3.lt
    have z2 := hbl3.lt
    have f9 := hbl3.free 9
    obtain ⟨g0, g1, g2, g3, g4, g5, g6, g7, g8, g9⟩ := low_free hbr3
    dsimp only [low0] at d0 d1 d2 d3 d4 d5 d6 d7 d8 e0 e1 e2 e3 e4 e5 e6 e7 e8
    have hz : w.heap.size + 1 < W.heap.size := by omega
    clear hb3 hu hbr hbl hbr3 hbl3 hA hsz
    go_wp2_with fail
    obtain ⟨q1, q2, q3⟩ := low_ret (w := w) ⟨true, false, false, 0, 0, 0, (x : Int), 0, false⟩ (HR3.out.far (p := ⟨w.heap.size + 1, 9, none⟩) (by simp) (.slice A3 k.length c3)) rfl (HB3.out.setCell (p := ⟨w.heap.size + 1, 9, none⟩) (by simp) (.slice A3 k.length c3)) (own_away HU3.out (p := ⟨w.heap.size + 1, 9, none⟩) hz (.slice A3 k.length c3)) (by omega)
    exact bodyPost_ret (res_low rfl _ _ w.heap.size ⟨true, false, false, 0, 0, 0, (x : Int), 0, false⟩ (.slice A3 k.length c3) rfl q1) rfl ⟨q2, _, A3, k.length, c3, rfl, fun _ => ⟨rfl, rfl, q3⟩⟩
end Go.Proofs.Ytkpjinkkjbljkaa
