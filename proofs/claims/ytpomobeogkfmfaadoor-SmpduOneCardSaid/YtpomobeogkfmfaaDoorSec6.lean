/- Walks of package smpdu: sizes, flags, numbers; of its reference: bit, flags. -/
import Derived.Test.YtpomobeogkfmfaaDoorSecP
import Derived.Test.YtpomobeogkfmfaaDoorApart
import Derived.Deep.RegionHeld3
namespace Go.Proofs.YtpomobeogkfmfaaDoor
open Go.RowKit

/-- What is left that reads as numbers, in memory of its own. -/
def IntsPost (w : World) (l : List Int) (e : Ending) (w' : World) : Prop := Below w.heap.size w w' ∧ ∃ v, e = .returned v ∧ w'.ownsRow w.heap.size 3 1 v l.length (ints l)
def NumsPost (w : World) (l : List Nat) (e : Ending) (w' : World) : Prop := Below w.heap.size w w' ∧ ∃ v, e = .returned v ∧ w'.ownsRow w.heap.size 22 1 v l.length (nums l)

set_option maxRecDepth 100000 in
set_option maxHeartbeats 4000000 in
theorem sizes_any (k : Int) (h : hasK k = true) (w : World) : Calls Tryd.prog 59 #[.int .i64 k] w (IntsPost w (sizK k)) := by
  have hk := hasK_yes h
  clear h
  rcases hk with hk | hk | hk | hk | hk | hk | hk | hk | hk
  all_goals
    subst hk
    go_enter Tryd.func59, Tryd.ntmps59
    go_wp2_with fail
    go_ret
    refine ⟨al1 _ _, _, rfl, ?_⟩
    first
      | exact own_numlit w #[.int .i64 1, .int .i64 1] 3 2 rfl (by simp [maxLen])
      | exact own_numlit w #[.int .i64 1] 3 1 rfl (by simp [maxLen])
      | exact own_numlit w #[.int .i64 4] 3 1 rfl (by simp [maxLen])
      | exact own_numlit w #[.int .i64 8, .int .i64 1, .int .i64 6] 3 3 rfl (by simp [maxLen])
      | exact own_numlit w #[.int .i64 8] 3 1 rfl (by simp [maxLen])

/-- The box of the flags so far. -/
def FBox (w : World) (b n : Nat) : Prop := w.cell? ⟨b, 0, none⟩ = some (.int .u64 (n : Int)) ∧ w.frozen? ⟨b, 0, none⟩ = false
theorem FBox.lt {w : World} {b n : Nat} (h : FBox w b n) : b < w.heap.size := by
  rcases Nat.lt_or_ge b w.heap.size with hb | hb
  · exact hb
  · have := h.1
    simp [World.cell?, Array.getElem?_eq_none hb] at this
set_option maxHeartbeats 1000000 in
theorem set_any (is : Bool) (fl n b : Nat) (w : World) (h : FBox w b n) (hor : bits .or .u64 (n : Int) (fl : Int) = ((n + fl : Nat) : Int)) :
    Calls Tryd.prog 70 #[.bool is, .int .u64 (fl : Int), .pointer (some ⟨b, 0, none⟩)] w fun e w' => e = .returned (.tuple #[]) ∧ FBox w' b (n + if is then fl else 0) ∧ Below b w w' := by
  obtain ⟨hc, hf⟩ := h
  have hlt := FBox.lt ⟨hc, hf⟩
  cases is
  · go_enter Tryd.func70, Tryd.ntmps70
    go_wp2
    go_end0
    exact ⟨rfl, ⟨hc, hf⟩, Below.refl _ _⟩
  · go_enter Tryd.func70, Tryd.ntmps70
    go_wp2
    go_end0
    refine ⟨rfl, ⟨?_, ?_⟩, (Below.refl b w).setCell (p := ⟨b, 0, none⟩) (Nat.le_refl b) _⟩
    · simp [go_sem, hc]
    · simp [go_sem, hf]


theorem or_1 (o : Bool) : bits .or .u64 ((0 + if o then 1 else 0 : Nat) : Int) ((2 : Nat) : Int) = (((0 + if o then 1 else 0) + 2 : Nat) : Int) := by cases o <;> rfl
theorem or_2 (o b : Bool) : bits .or .u64 (((0 + if o then 1 else 0) + if b then 2 else 0 : Nat) : Int) ((4 : Nat) : Int) = ((((0 + if o then 1 else 0) + if b then 2 else 0) + 4 : Nat) : Int) := by cases o <;> cases b <;> rfl
theorem or_3 (o b m : Bool) : bits .or .u64 ((((0 + if o then 1 else 0) + if b then 2 else 0) + if m then 4 else 0 : Nat) : Int) ((8 : Nat) : Int) = (((((0 + if o then 1 else 0) + if b then 2 else 0) + if m then 4 else 0) + 8 : Nat) : Int) := by cases o <;> cases b <;> cases m <;> rfl
theorem or_4 (o b m s : Bool) : bits .or .u64 (((((0 + if o then 1 else 0) + if b then 2 else 0) + if m then 4 else 0) + if s then 8 else 0 : Nat) : Int) ((16 : Nat) : Int) = ((((((0 + if o then 1 else 0) + if b then 2 else 0) + if m then 4 else 0) + if s then 8 else 0) + 16 : Nat) : Int) := by cases o <;> cases b <;> cases m <;> cases s <;> rfl

set_option maxRecDepth 100000 in
set_option maxHeartbeats 4000000 in
theorem flags_any (i : Int) (o b m s t : Bool) (w : World) : Calls Tryd.prog 68 #[feat i o b m s t] w fun e w' => e = .returned (.int .u64 (flagN o b m s t : Nat)) ∧ Below w.heap.size w w' := by
  have hmf : ∀ (fn : Fn) (first cap : Array Value) (w : World), (Instr.makeFunc fn first cap).run Tryd.prog w = .ok (.func fn first cap) w := fun _ _ _ _ => rfl
  have hw : ∃ w0 : World, w0 = (w.alloc (.cells #[.int .i64 i, .bool o, .bool b, .bool m, .bool s, .bool t] 47)).alloc (.cells #[.int .u64 0] 22) := ⟨_, rfl⟩
  have C1 := Lib.hid (show ∀ W, FBox W (w.heap.size + 1) 0 → _ from fun W h => set_any o 1 0 (w.heap.size + 1) W h rfl)
  have C2 := Lib.hid (show ∀ W, FBox W (w.heap.size + 1) _ → _ from fun W h => set_any b 2 _ (w.heap.size + 1) W h (or_1 o))
  have C3 := Lib.hid (show ∀ W, FBox W (w.heap.size + 1) _ → _ from fun W h => set_any m 4 _ (w.heap.size + 1) W h (or_2 o b))
  have C4 := Lib.hid (show ∀ W, FBox W (w.heap.size + 1) _ → _ from fun W h => set_any s 8 _ (w.heap.size + 1) W h (or_3 o b m))
  have C5 := Lib.hid (show ∀ W, FBox W (w.heap.size + 1) _ → _ from fun W h => set_any t 16 _ (w.heap.size + 1) W h (or_4 o b m s))
  have F : (0 + if o then 1 else 0) + (if b then 2 else 0) + (if m then 4 else 0) + (if s then 8 else 0) + (if t then 16 else 0) = flagN o b m s t := by simp [flagN]
  have HF := Lib.hid F
  clear F
  generalize ((((0 + if o then 1 else 0) + if b then 2 else 0) + if m then 4 else 0) + if s then 8 else 0) + (if t then 16 else 0) = n5 at *
  generalize (((0 + if o then 1 else 0) + if b then 2 else 0) + if m then 4 else 0) + (if s then 8 else 0) = n4 at *
  generalize ((0 + if o then 1 else 0) + if b then 2 else 0) + (if m then 4 else 0) = n3 at *
  generalize (0 + if o then 1 else 0) + (if b then 2 else 0) = n2 at *
  generalize (0 + if o then 1 else 0) = n1 at *
  clear hw
  go_enter Tryd.func68, Tryd.ntmps68
  go_wp2_with (go_at_call 70; fail)
  refine (C1.out _ ⟨by simp [go_sem], by simp [go_sem]⟩).mono ?_
  rintro e w1 ⟨rfl, hbox, hb⟩
  have a1_2 : w1.cell? ⟨w.heap.size, 2, none⟩ = some (.bool b) := by rw [blow hb w.heap.size 2 (by omega)]; simp [go_sem]
  have a1_3 : w1.cell? ⟨w.heap.size, 3, none⟩ = some (.bool m) := by rw [blow hb w.heap.size 3 (by omega)]; simp [go_sem]
  have a1_4 : w1.cell? ⟨w.heap.size, 4, none⟩ = some (.bool s) := by rw [blow hb w.heap.size 4 (by omega)]; simp [go_sem]
  have a1_5 : w1.cell? ⟨w.heap.size, 5, none⟩ = some (.bool t) := by rw [blow hb w.heap.size 5 (by omega)]; simp [go_sem]
  have HX1 := Lib.hid hbox
  have HB1 := Lib.hid ((al2 w _ _).trans (hb.mono (by omega)))
  clear hb hbox
  go_wp2_with (go_at_call 70; fail)
  refine (C2.out _ HX1.out).mono ?_
  rintro e w2 ⟨rfl, hbox, hb⟩
  have a2_3 : w2.cell? ⟨w.heap.size, 3, none⟩ = some (.bool m) := (blow hb w.heap.size 3 (by omega)).trans a1_3
  have a2_4 : w2.cell? ⟨w.heap.size, 4, none⟩ = some (.bool s) := (blow hb w.heap.size 4 (by omega)).trans a1_4
  have a2_5 : w2.cell? ⟨w.heap.size, 5, none⟩ = some (.bool t) := (blow hb w.heap.size 5 (by omega)).trans a1_5
  have HX2 := Lib.hid hbox
  have HB2 := Lib.hid (HB1.out.trans (hb.mono (by omega)))
  clear hb hbox
  go_wp2_with (go_at_call 70; fail)
  refine (C3.out _ HX2.out).mono ?_
  rintro e w3 ⟨rfl, hbox, hb⟩
  have a3_4 : w3.cell? ⟨w.heap.size, 4, none⟩ = some (.bool s) := (blow hb w.heap.size 4 (by omega)).trans a2_4
  have a3_5 : w3.cell? ⟨w.heap.size, 5, none⟩ = some (.bool t) := (blow hb w.heap.size 5 (by omega)).trans a2_5
  have HX3 := Lib.hid hbox
  have HB3 := Lib.hid (HB2.out.trans (hb.mono (by omega)))
  clear hb hbox
  go_wp2_with (go_at_call 70; fail)
  refine (C4.out _ HX3.out).mono ?_
  rintro e w4 ⟨rfl, hbox, hb⟩
  have a4_5 : w4.cell? ⟨w.heap.size, 5, none⟩ = some (.bool t) := (blow hb w.heap.size 5 (by omega)).trans a3_5
  have HX4 := Lib.hid hbox
  have HB4 := Lib.hid (HB3.out.trans (hb.mono (by omega)))
  clear hb hbox
  go_wp2_with (go_at_call 70; fail)
  refine (C5.out _ HX4.out).mono ?_
  rintro e w5 ⟨rfl, hbox, hb⟩
  have HX5 := Lib.hid hbox
  have HB5 := Lib.hid (HB4.out.trans (hb.mono (by omega)))
  clear hb hbox
  have hx := HX5.out.1
  have hz := FBox.lt HX5.out
  go_wp2
  go_ret
  exact ⟨by rw [HF.out]; rfl, HB5.out⟩

/-! ### The reference's -/
def bI (b : Bool) (n : Nat) : Nat := if b then n else 0
theorem bI_le (b : Bool) (n : Nat) : bI b n ≤ n := by cases b <;> simp [bI]
theorem bit_any (b : Bool) (n : Nat) (w : World) : Calls Tryd.prog 69 #[.bool b, .int .u8 (n : Int)] w fun e w' => e = .returned (.int .u8 (bI b n : Nat)) ∧ w = w' := by
  cases b
  · go_enter Tryd.func69, Tryd.ntmps69
    go_wp2
    go_ret
    exact ⟨rfl, rfl⟩
  · go_enter Tryd.func69, Tryd.ntmps69
    go_wp2
    go_ret
    exact ⟨rfl, rfl⟩
set_option maxRecDepth 100000 in
set_option maxHeartbeats 4000000 in
theorem rflags_any (i : Int) (o b m s t : Bool) (w : World) : Calls Tryd.prog 60 #[feat i o b m s t] w fun e w' => e = .returned (.int .u8 (flagN o b m s t : Nat)) ∧ Below w.heap.size w w' := by
  have hb := al1 w (.cells #[.int .i64 i, .bool o, .bool b, .bool m, .bool s, .bool t] 47)
  have F : flagN o b m s t = bI o 1 + bI b 2 + bI m 4 + bI s 8 + bI t 16 := rfl
  have B1 := bit_any o 1
  have B2 := bit_any b 2
  have B3 := bit_any m 4
  have B4 := bit_any s 8
  have B5 := bit_any t 16
  have h1 := bI_le o 1
  have h2 := bI_le b 2
  have h3 := bI_le m 4
  have h4 := bI_le s 8
  have h5 := bI_le t 16
  rw [F]
  clear F
  generalize bI o 1 = n1 at *
  generalize bI b 2 = n2 at *
  generalize bI m 4 = n3 at *
  generalize bI s 8 = n4 at *
  generalize bI t 16 = n5 at *
  have K1 := Lib.hid B1
  have K2 := Lib.hid B2
  have K3 := Lib.hid B3
  have K4 := Lib.hid B4
  have K5 := Lib.hid B5
  clear B1 B2 B3 B4 B5
  go_enter Tryd.func60, Tryd.ntmps60
  go_wp2_with fail
  go_quiet ((go_at_call 69; first | exact quiet_at (K1.out _) | exact quiet_at (K2.out _) | exact quiet_at (K3.out _) | exact quiet_at (K4.out _) | exact quiet_at (K5.out _)))
  go_wp2_with fail
  go_ret
  exact ⟨by simp, below_drewN hb _⟩

theorem own_numlit2 (w : World) (o1 : Obj) (cs : Array Value) (t : TypeId) (n : Nat) (hn : cs.size = n) (hm : n ≤ maxLen) : ((w.alloc o1).alloc (.cells cs t)).ownsRow w.heap.size t 1 (.slice (some ⟨w.heap.size + 1, 0, none⟩) n n) n cs.toList := by
  have h := own_numlit (w.alloc o1) cs t n hn hm
  rw [show (w.alloc o1).heap.size = w.heap.size + 1 by simp] at h
  exact own_base h (by omega)

set_option maxRecDepth 100000 in
set_option maxHeartbeats 4000000 in
theorem numbers_1 (n : Nat) (h4 : n ≤ 4) (o b m s t : Bool) (pu va : Nat) (ak : Int) (ax ir : Nat) (rs : Int) (w : World) :
    Calls Tryd.prog 58 #[secC 1 n o b m s t pu va ak ax ir rs] w (NumsPost w [n, flagN o b m s t]) := by
  have HF := Lib.hid (flags_any n o b m s t)
  have hwr := wr64 (show n ≤ 18446744073709551615 by omega)
  generalize flagN o b m s t = fl at *
  go_enter Tryd.func58, Tryd.ntmps58
  go_wp2_with fail
  go_region_held3 (fun w' => w'.cell? ⟨w.heap.size, 1, none⟩ = some (.int .i64 (n : Int)) ∧ w'.cell? ⟨w.heap.size, 2, none⟩ = some (.bool o) ∧ w'.cell? ⟨w.heap.size, 3, none⟩ = some (.bool b) ∧ w'.cell? ⟨w.heap.size, 4, none⟩ = some (.bool m) ∧ w'.cell? ⟨w.heap.size, 5, none⟩ = some (.bool s) ∧ w'.cell? ⟨w.heap.size, 6, none⟩ = some (.bool t)) (go_keep)
    (first | (go_at_call 68; refine (HF.out _).mono ?_; rintro e w2 ⟨rfl, hb2⟩; have hc2 := bfar (w.heap.size + 1) hb2 (by simp); have hz2 : w.heap.size + 1 ≤ w2.heap.size := (by have := hb2.size; simp at this; omega)))
  have HB2 := Lib.hid (one_drew hb2)
  go_wp2
  go_ret
  exact ⟨HB2.out.alloc HB2.out.size _, _, rfl, own_base (own_numlit w2 #[.int .u64 (n : Int), .int .u64 (fl : Int)] 22 2 rfl (by simp [maxLen])) HB2.out.size⟩

set_option maxRecDepth 100000 in
set_option maxHeartbeats 4000000 in
theorem numbers_2 (n : Nat) (h4 : n ≤ 4) (o b m s t : Bool) (pu va : Nat) (ak : Int) (ax ir : Nat) (rs : Int) (w : World) :
    Calls Tryd.prog 58 #[secC 2 n o b m s t pu va ak ax ir rs] w (NumsPost w [n, flagN o b m s t]) := by
  have HF := Lib.hid (flags_any n o b m s t)
  have hwr := wr64 (show n ≤ 18446744073709551615 by omega)
  generalize flagN o b m s t = fl at *
  go_enter Tryd.func58, Tryd.ntmps58
  go_wp2_with fail
  go_region_held3 (fun w' => w'.cell? ⟨w.heap.size, 1, none⟩ = some (.int .i64 (n : Int)) ∧ w'.cell? ⟨w.heap.size, 2, none⟩ = some (.bool o) ∧ w'.cell? ⟨w.heap.size, 3, none⟩ = some (.bool b) ∧ w'.cell? ⟨w.heap.size, 4, none⟩ = some (.bool m) ∧ w'.cell? ⟨w.heap.size, 5, none⟩ = some (.bool s) ∧ w'.cell? ⟨w.heap.size, 6, none⟩ = some (.bool t)) (go_keep)
    (first | (go_at_call 68; refine (HF.out _).mono ?_; rintro e w2 ⟨rfl, hb2⟩; have hc2 := bfar (w.heap.size + 1) hb2 (by simp); have hz2 : w.heap.size + 1 ≤ w2.heap.size := (by have := hb2.size; simp at this; omega)))
  have HB2 := Lib.hid (one_drew hb2)
  go_wp2
  go_ret
  exact ⟨HB2.out.alloc HB2.out.size _, _, rfl, own_base (own_numlit w2 #[.int .u64 (n : Int), .int .u64 (fl : Int)] 22 2 rfl (by simp [maxLen])) HB2.out.size⟩

set_option maxRecDepth 100000 in
set_option maxHeartbeats 4000000 in
theorem numbers_11 (i : Int) (o b m s t : Bool) (pu va : Nat) (ak : Int) (ax ir : Nat) (rs : Int) (w : World) :
    Calls Tryd.prog 58 #[secC 11 i o b m s t pu va ak ax ir rs] w (NumsPost w [flagN o b m s t]) := by
  have HF := Lib.hid (flags_any i o b m s t)
  generalize flagN o b m s t = fl at *
  go_enter Tryd.func58, Tryd.ntmps58
  go_wp2_with fail
  refine (HF.out _).mono ?_
  rintro e w2 ⟨rfl, hb2⟩
  have HB2 := Lib.hid (one hb2)
  clear hb2
  go_wp2
  go_ret
  exact ⟨HB2.out.alloc HB2.out.size _, _, rfl, own_base (own_numlit w2 #[.int .u64 (fl : Int)] 22 1 rfl (by simp [maxLen])) HB2.out.size⟩

set_option maxRecDepth 100000 in
set_option maxHeartbeats 4000000 in
theorem numbers_12 (i : Int) (o b m s t : Bool) (pu va : Nat) (h : pu < 4294967296) (ak : Int) (ax ir : Nat) (rs : Int) (w : World) :
    Calls Tryd.prog 58 #[secC 12 i o b m s t pu va ak ax ir rs] w (NumsPost w [pu]) := by
  go_enter Tryd.func58, Tryd.ntmps58
  go_wp2
  go_ret
  exact ⟨al2 _ _ _, _, rfl, own_numlit2 w _ #[.int .u64 (pu : Int)] 22 1 rfl (by simp [maxLen])⟩

set_option maxRecDepth 100000 in
set_option maxHeartbeats 4000000 in
theorem numbers_8 (i : Int) (o b m s t : Bool) (pu va ak ax ir : Nat) (h : ak ≤ 4) (rs : Int) (w : World) :
    Calls Tryd.prog 58 #[secC 8 i o b m s t pu va ak ax ir rs] w (NumsPost w [ir, ak, ax]) := by
  go_enter Tryd.func58, Tryd.ntmps58
  go_wp2
  go_ret
  exact ⟨al2 _ _ _, _, rfl, own_numlit2 w _ #[.int .u64 (ir : Int), .int .u64 (ak : Int), .int .u64 (ax : Int)] 22 3 rfl (by simp [maxLen])⟩

set_option maxRecDepth 100000 in
set_option maxHeartbeats 4000000 in
theorem numbers_5 (i : Int) (o b m s t : Bool) (pu va : Nat) (ak : Int) (ax ir rs : Nat) (h : rs ≤ 255) (w : World) :
    Calls Tryd.prog 58 #[secC 5 i o b m s t pu va ak ax ir rs] w (NumsPost w [rs]) := by
  go_enter Tryd.func58, Tryd.ntmps58
  go_wp2
  go_ret
  exact ⟨al2 _ _ _, _, rfl, own_numlit2 w _ #[.int .u64 (rs : Int)] 22 1 rfl (by simp [maxLen])⟩

set_option maxRecDepth 100000 in
set_option maxHeartbeats 4000000 in
theorem numbers_val (k : Int) (hk : k = 3 ∨ k = 4 ∨ k = 13) (i : Int) (o b m s t : Bool) (pu va : Nat) (ak : Int) (ax ir : Nat) (rs : Int) (w : World) :
    Calls Tryd.prog 58 #[secC k i o b m s t pu va ak ax ir rs] w (NumsPost w [va]) := by
  have f1 : (k == 1) = false := neq_bool (by omega)
  have f2 : (k == 2) = false := neq_bool (by omega)
  have f5 : (k == 5) = false := neq_bool (by omega)
  have f8 : (k == 8) = false := neq_bool (by omega)
  have f11 : (k == 11) = false := neq_bool (by omega)
  have f12 : (k == 12) = false := neq_bool (by omega)
  clear hk
  go_enter Tryd.func58, Tryd.ntmps58
  go_wp2
  go_ret
  exact ⟨al2 _ _ _, _, rfl, own_numlit2 w _ #[.int .u64 (va : Int)] 22 1 rfl (by simp [maxLen])⟩

/-- smpdu.numbers returns the numbers of a valid PDU. -/
theorem numbers_any (p : Sec) (h : chkS p = 0) (hr : SecOk p) (w : World) : Calls Tryd.prog 58 #[secV p] w (NumsPost w (numS p)) := by
  obtain ⟨hh, hu, hf, hi, hs⟩ := chkS_ok h
  obtain ⟨k, io, o, b, m, s, t, pu, va, ak, ax, ir, rs⟩ := p
  obtain ⟨r1, r2, r3, r4⟩ := hr
  have hk := hasK_yes hh
  simp only at hk hf hi hs r1 r2 r3 r4
  clear h hh hu
  rcases hk with hk | hk | hk | hk | hk | hk | hk | hk | hk
  all_goals subst hk
  · obtain ⟨h0, h4⟩ := hf (by omega)
    obtain ⟨n, rfl⟩ := Int.eq_ofNat_of_zero_le h0
    exact numbers_1 n (by omega) o b m s t pu va ak ax ir rs w
  · obtain ⟨h0, h4⟩ := hf (by omega)
    obtain ⟨n, rfl⟩ := Int.eq_ofNat_of_zero_le h0
    exact numbers_2 n (by omega) o b m s t pu va ak ax ir rs w
  · exact numbers_val 3 (by omega) io o b m s t pu va ak ax ir rs w
  · exact numbers_val 4 (by omega) io o b m s t pu va ak ax ir rs w
  · obtain ⟨h0, h4⟩ := hs rfl
    obtain ⟨n, rfl⟩ := Int.eq_ofNat_of_zero_le (show 0 ≤ rs by omega)
    exact numbers_5 io o b m s t pu va ak ax ir n (by omega) w
  · obtain ⟨_, h1⟩ := hi rfl
    obtain ⟨n, rfl⟩ := Int.eq_ofNat_of_zero_le (show 0 ≤ ak by omega)
    exact numbers_8 io o b m s t pu va n ax ir (by omega) rs w
  · exact numbers_11 io o b m s t pu va ak ax ir rs w
  · exact numbers_12 io o b m s t pu va r1 ak ax ir rs w
  · exact numbers_val 13 (by omega) io o b m s t pu va ak ax ir rs w
end Go.Proofs.YtpomobeogkfmfaaDoor
