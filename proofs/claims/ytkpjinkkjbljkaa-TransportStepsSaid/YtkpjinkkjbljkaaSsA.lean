/- The law TransportSteps: what is compared. -/
import Derived.Test.YtkpjinkkjbljkaaTq5
import Derived.Deep.RegionHeld3
import Derived.Deep.DeepCutAuto
import Derived.Test.YtkpjinkkjbljkaaTaS
namespace Go.Proofs.Ytkpjinkkjbljkaa
open Go.RowKit

/-- The cells of a message in a list. -/
theorem acc_cells {w : World} {B : Nat} {v : Value} {ms : List Msg} (h : AccsV w B v ms) {i : Nat} {a : Msg} (hi : ms[i]? = some a) : ∃ (b o c : Nat) (A' : Option Addr) (c' : Nat), v = .slice (some ⟨b, o, none⟩) ms.length c ∧ b < B ∧ (∀ (j : Nat) (y : Value), (accF a (.slice A' a.2.length c'))[j]? = some y → w.cell? ⟨b, o + i * 8 + j, none⟩ = some y) ∧ BS w B (.slice A' a.2.length c') a.2 := by
  obtain ⟨vs, h1, h2, h3⟩ := h
  have hiv : i < vs.length := by have := (List.getElem?_eq_some_iff.1 hi).1; omega
  have hv := List.getElem?_eq_getElem hiv
  have hp := h3 i a vs[i] hi hv
  obtain ⟨A', c', hf, _⟩ := id hp
  rw [hf] at hp hv
  have c0 := flat2_at accF_len ms vs i a _ 0 h1 hi hv (by omega)
  obtain ⟨A, c, rfl, _⟩ := id h2
  obtain ⟨b, o, rfl, hB, hc⟩ := h2.cells c0
  refine ⟨b, o, c, A', c', rfl, hB, fun j y hy => ?_, hp⟩
  have hj : j < 8 := (List.getElem?_eq_some_iff.1 hy).1
  have cj := flat2_at accF_len ms vs i a _ j h1 hi hv hj
  rw [Nat.add_assoc]
  exact hc _ _ (cj.trans hy)

set_option maxRecDepth 100000 in
set_option maxHeartbeats 4000000 in
theorem sameacc_any (a b : Value) (ms : List Msg) (w : World) (ha : AccsV w w.heap.size a ms) (hb : AccsV w w.heap.size b ms) (hle : ms.length ≤ 65536) :
    Calls Try.prog 24 #[a, b] w fun e w' => e = .returned (.bool true) ∧ Below w.heap.size w w' := by
  obtain ⟨A, c, rfl⟩ := ha.form
  obtain ⟨A', c', rfl⟩ := hb.form
  have HA := Lib.hid ha
  have HB := Lib.hid hb
  have HLE := Lib.hid hle
  clear ha hb
  go_enter Try.func24, Try.ntmps24
  go_wp2_with fail
  go_loopw [5] (fun i wr => ∃ j : Nat, j ≤ ms.length ∧ i = .int .i64 j ∧ Below w.heap.size w wr) (fun i _ => ms.length - (intOf i).toNat)
  case atStart => exact ⟨0, Nat.zero_le _, rfl, Below.refl _ _⟩
  case round =>
    obtain ⟨j, hj, rfl, hbel⟩ := hrel
    have HBE := Lib.hid hbel
    by_cases hlt : j < ms.length
    · have hej := List.getElem?_eq_getElem hlt
      obtain ⟨b1, o1, x1, A1, c1, hf1, hB1, k1, s1⟩ := acc_cells (HA.out.below hbel) hej
      injection hf1 with hf1 _ hf3
      subst hf1 hf3
      obtain ⟨b2, o2, x2, A2, c2, hf2, hB2, k2, s2⟩ := acc_cells (HB.out.below hbel) hej
      injection hf2 with hf2 _ hf3
      subst hf2 hf3
      have HS1 := Lib.hid (s1.more hbel.size)
      have HS2 := Lib.hid (s2.more hbel.size)
      have hz1 : b1 < wr.heap.size := Nat.lt_of_lt_of_le hB1 hbel.size
      have hz2 : b2 < wr.heap.size := Nat.lt_of_lt_of_le hB2 hbel.size
      generalize ms[j] = y at *
      obtain ⟨⟨src, dst, app, ttl, ssrc, iv, seq⟩, bl⟩ := y
      have d0 : wr.cell? ⟨b1, o1 + j * 8, none⟩ = some (.int .u16 (src : Int)) := k1 0 _ rfl
      have d1 : wr.cell? ⟨b1, o1 + j * 8 + 1, none⟩ = some (.int .u16 (dst : Int)) := k1 1 _ rfl
      have d2 : wr.cell? ⟨b1, o1 + j * 8 + 2, none⟩ = some (.bool app) := k1 2 _ rfl
      have d3 : wr.cell? ⟨b1, o1 + j * 8 + 3, none⟩ = some (.int .i64 ttl) := k1 3 _ rfl
      have d4 : wr.cell? ⟨b1, o1 + j * 8 + 4, none⟩ = some (.int .u16 (ssrc : Int)) := k1 4 _ rfl
      have d5 : wr.cell? ⟨b1, o1 + j * 8 + 5, none⟩ = some (.int .u32 (iv : Int)) := k1 5 _ rfl
      have d6 : wr.cell? ⟨b1, o1 + j * 8 + 6, none⟩ = some (.int .u32 (seq : Int)) := k1 6 _ rfl
      have d7 : wr.cell? ⟨b1, o1 + j * 8 + 7, none⟩ = some (.slice A1 bl.length c1) := k1 7 _ rfl
      have e0 : wr.cell? ⟨b2, o2 + j * 8, none⟩ = some (.int .u16 (src : Int)) := k2 0 _ rfl
      have e1 : wr.cell? ⟨b2, o2 + j * 8 + 1, none⟩ = some (.int .u16 (dst : Int)) := k2 1 _ rfl
      have e2 : wr.cell? ⟨b2, o2 + j * 8 + 2, none⟩ = some (.bool app) := k2 2 _ rfl
      have e3 : wr.cell? ⟨b2, o2 + j * 8 + 3, none⟩ = some (.int .i64 ttl) := k2 3 _ rfl
      have e4 : wr.cell? ⟨b2, o2 + j * 8 + 4, none⟩ = some (.int .u16 (ssrc : Int)) := k2 4 _ rfl
      have e5 : wr.cell? ⟨b2, o2 + j * 8 + 5, none⟩ = some (.int .u32 (iv : Int)) := k2 5 _ rfl
      have e6 : wr.cell? ⟨b2, o2 + j * 8 + 6, none⟩ = some (.int .u32 (seq : Int)) := k2 6 _ rfl
      have e7 : wr.cell? ⟨b2, o2 + j * 8 + 7, none⟩ = some (.slice A2 bl.length c2) := k2 7 _ rfl
      clear k1 k2 s1 s2 hej hbel
      obtain ⟨wo, rfl⟩ : ∃ wo : World, wo = wr := ⟨_, rfl⟩
      go_upto_region 6 with fail
      go_cut [6, 7] (fun t6 t7 wx => ∃ m1 m2 : Nat, t6 = .pointer (some ⟨m1, 0, none⟩) ∧ t7 = .pointer (some ⟨m2, 0, none⟩) ∧ Box wx m1 (accCs ⟨src, dst, app, ttl, ssrc, iv, seq⟩ (.slice A1 bl.length c1)) ∧ Box wx m2 (accCs ⟨src, dst, app, ttl, ssrc, iv, seq⟩ (.slice A2 bl.length c2)) ∧ Below wo.heap.size wo wx)
      case first =>
        have ij : (j : Int) < (ms.length : Int) := by omega
        have i0 : (0 : Int) ≤ (j : Int) := by omega
        go_region_held3 (fun w' => w'.cell? ⟨b1, o1 + j * 8, none⟩ = some (.int .u16 (src : Int)) ∧ w'.cell? ⟨b1, o1 + j * 8 + 1, none⟩ = some (.int .u16 (dst : Int)) ∧ w'.cell? ⟨b1, o1 + j * 8 + 2, none⟩ = some (.bool app) ∧ w'.cell? ⟨b1, o1 + j * 8 + 3, none⟩ = some (.int .i64 ttl) ∧ w'.cell? ⟨b1, o1 + j * 8 + 4, none⟩ = some (.int .u16 (ssrc : Int)) ∧ w'.cell? ⟨b1, o1 + j * 8 + 5, none⟩ = some (.int .u32 (iv : Int)) ∧ w'.cell? ⟨b1, o1 + j * 8 + 6, none⟩ = some (.int .u32 (seq : Int)) ∧ w'.cell? ⟨b1, o1 + j * 8 + 7, none⟩ = some (.slice A1 bl.length c1) ∧ w'.cell? ⟨b2, o2 + j * 8, none⟩ = some (.int .u16 (src : Int)) ∧ w'.cell? ⟨b2, o2 + j * 8 + 1, none⟩ = some (.int .u16 (dst : Int)) ∧ w'.cell? ⟨b2, o2 + j * 8 + 2, none⟩ = some (.bool app) ∧ w'.cell? ⟨b2, o2 + j * 8 + 3, none⟩ = some (.int .i64 ttl) ∧ w'.cell? ⟨b2, o2 + j * 8 + 4, none⟩ = some (.int .u16 (ssrc : Int)) ∧ w'.cell? ⟨b2, o2 + j * 8 + 5, none⟩ = some (.int .u32 (iv : Int)) ∧ w'.cell? ⟨b2, o2 + j * 8 + 6, none⟩ = some (.int .u32 (seq : Int)) ∧ w'.cell? ⟨b2, o2 + j * 8 + 7, none⟩ = some (.slice A2 bl.length c2)) (go_keep) (fail)
        all_goals
          clear d0 e0 d1 e1 d2 e2 d3 e3 d4 e4 d5 e5 d6 e6 d7 e7
          go_wp2_with fail
          go_meet
        all_goals
          first
            | exact ⟨wo.heap.size, wo.heap.size + 1, rfl, rfl, ((Box.new wo _ _).alloc _).drew, ⟨43, by rw [heap_dr, heap_al, if_pos (by simp)]⟩, below_drewN (al2 _ _ _) 1⟩
            | exact ⟨wo.heap.size + 1, wo.heap.size, rfl, rfl, ⟨43, by rw [heap_dr, heap_al, if_pos (by simp)]⟩, ((Box.new wo _ _).alloc _).drew, below_drewN (al2 _ _ _) 1⟩
            | fail
      case rest =>
        obtain ⟨m1, m2, rfl, rfl, hx1, hx2, hbx⟩ := hcut
        have HX := Lib.hid hbx
        have CS := Lib.hid (show Calls Try.prog 18 #[.slice A1 bl.length c1, .slice A2 bl.length c2] wc fun e w' => e = .returned (.bool true) ∧ wc = w' by
          have h := same_any _ _ bl bl wc (HS1.out.on hbx) (HS2.out.on hbx)
          rwa [decide_eq_true rfl] at h)
        have p10 := hx1.cell (j := 0) rfl
        (try dsimp only at p10)
        have p11 := hx1.cell (j := 1) rfl
        (try dsimp only at p11)
        have p12 := hx1.cell (j := 2) rfl
        (try dsimp only at p12)
        have p13 := hx1.cell (j := 3) rfl
        (try dsimp only at p13)
        have p14 := hx1.cell (j := 4) rfl
        (try dsimp only at p14)
        have p15 := hx1.cell (j := 5) rfl
        (try dsimp only at p15)
        have p16 := hx1.cell (j := 6) rfl
        (try dsimp only at p16)
        have p17 := hx1.cell (j := 7) rfl
        (try dsimp only at p17)
        have p20 := hx2.cell (j := 0) rfl
        (try dsimp only at p20)
        have p21 := hx2.cell (j := 1) rfl
        (try dsimp only at p21)
        have p22 := hx2.cell (j := 2) rfl
        (try dsimp only at p22)
        have p23 := hx2.cell (j := 3) rfl
        (try dsimp only at p23)
        have p24 := hx2.cell (j := 4) rfl
        (try dsimp only at p24)
        have p25 := hx2.cell (j := 5) rfl
        (try dsimp only at p25)
        have p26 := hx2.cell (j := 6) rfl
        (try dsimp only at p26)
        have p27 := hx2.cell (j := 7) rfl
        (try dsimp only at p27)
        have y1 := hx1.lt
        have y2 := hx2.lt
        clear hx1 hx2 hbx d0 e0 d1 e1 d2 e2 d3 e3 d4 e4 d5 e5 d6 e6 d7 e7
        go_wp2_with fail
        refine CS.out.mono ?_
        rintro e w5 ⟨rfl, rfl⟩
        go_wp2_with fail
        go_roundw
        case rel => exact ⟨j + 1, by omega, by go_num, bthen HBE.out HX.out⟩
        case measure => simp [intOf]; omega
    · have hje : j = ms.length := by omega
      subst hje
      go_wp2_with fail
      go_ret
      exact ⟨rfl, HBE.out⟩

/-- The cells of lists. -/
theorem part_cell {w : World} {B : Nat} {v : Value} {ps : List (List UInt8)} (h : PartsV w B v ps) {i : Nat} {p : List UInt8} (hi : ps[i]? = some p) : ∃ (b o c : Nat) (A' : Option Addr) (c' : Nat), v = .slice (some ⟨b, o, none⟩) ps.length c ∧ b < B ∧ w.cell? ⟨b, o + i, none⟩ = some (.slice A' p.length c') ∧ BS w B (.slice A' p.length c') p := by
  obtain ⟨us, h1, h2, h3⟩ := h
  have hiv : i < us.length := by have := (List.getElem?_eq_some_iff.1 hi).1; omega
  have hv := List.getElem?_eq_getElem hiv
  have hp := h3.2 i us[i] p hv hi
  obtain ⟨A', c', hf, _⟩ := id hp
  rw [hf] at hp hv
  obtain ⟨A, c, rfl, _⟩ := id h2
  obtain ⟨b, o, rfl, hB, hc⟩ := h2.cells hv
  exact ⟨b, o, c, A', c', rfl, hB, hc _ _ hv, hp⟩
theorem many_cells {α : Type} {f : α → Value → List Value} {m : Nat} {bf : α → List UInt8} (hm : ∀ o v, (f o v).length = m) (h0 : 0 < m) {w : World} {B : Nat} {v : Value} {ms : List α} (h : ManyV f m bf w B v ms) {i : Nat} {a : α} (hi : ms[i]? = some a) : ∃ (b o c : Nat) (A' : Option Addr) (c' : Nat), v = .slice (some ⟨b, o, none⟩) ms.length c ∧ b < B ∧ (∀ (j : Nat) (y : Value), (f a (.slice A' (bf a).length c'))[j]? = some y → w.cell? ⟨b, o + i * m + j, none⟩ = some y) ∧ BS w B (.slice A' (bf a).length c') (bf a) := by
  obtain ⟨vs, h1, h2, h3⟩ := h
  have hiv : i < vs.length := by have := (List.getElem?_eq_some_iff.1 hi).1; omega
  have hv := List.getElem?_eq_getElem hiv
  have hp := h3 i a vs[i] hi hv
  obtain ⟨A', c', hf, _⟩ := id hp
  rw [hf] at hp hv
  have c0 := flat2_at hm ms vs i a _ 0 h1 hi hv h0
  obtain ⟨y0, hy0⟩ : ∃ y, (f a (.slice A' (bf a).length c'))[0]? = some y := ⟨_, List.getElem?_eq_getElem (by rw [hm]; exact h0)⟩
  rw [hy0] at c0
  obtain ⟨A, c, rfl, _⟩ := id h2
  obtain ⟨b, o, rfl, hB, hc⟩ := h2.cells c0
  refine ⟨b, o, c, A', c', rfl, hB, fun j y hy => ?_, hp⟩
  have hj : j < m := by have := (List.getElem?_eq_some_iff.1 hy).1; rwa [hm] at this
  have cj := flat2_at hm ms vs i a _ j h1 hi hv hj
  rw [Nat.add_assoc]
  exact hc _ _ (cj.trans hy)
theorem row_cells {α : Type} {f : α → Value → List Value} {m : Nat} {pf : α → List (List UInt8)} (hm : ∀ o v, (f o v).length = m) (h0 : 0 < m) {w : World} {B : Nat} {v : Value} {ms : List α} (h : RowV f m pf w B v ms) {i : Nat} {a : α} (hi : ms[i]? = some a) : ∃ (b o c : Nat) (A' : Option Addr) (c' : Nat), v = .slice (some ⟨b, o, none⟩) ms.length c ∧ b < B ∧ (∀ (j : Nat) (y : Value), (f a (.slice A' (pf a).length c'))[j]? = some y → w.cell? ⟨b, o + i * m + j, none⟩ = some y) ∧ PartsV w B (.slice A' (pf a).length c') (pf a) := by
  obtain ⟨vs, h1, h2, h3⟩ := h
  have hiv : i < vs.length := by have := (List.getElem?_eq_some_iff.1 hi).1; omega
  have hv := List.getElem?_eq_getElem hiv
  have hp := h3 i a vs[i] hi hv
  obtain ⟨A', c', hf⟩ : ∃ A' c', vs[i] = .slice A' (pf a).length c' := by
    obtain ⟨us, _, ⟨A', c', hf, _⟩, _⟩ := id hp
    exact ⟨A', c', hf⟩
  rw [hf] at hp hv
  have c0 := flat2_at hm ms vs i a _ 0 h1 hi hv h0
  obtain ⟨y0, hy0⟩ : ∃ y, (f a (.slice A' (pf a).length c'))[0]? = some y := ⟨_, List.getElem?_eq_getElem (by rw [hm]; exact h0)⟩
  rw [hy0] at c0
  obtain ⟨A, c, rfl, _⟩ := id h2
  obtain ⟨b, o, rfl, hB, hc⟩ := h2.cells c0
  refine ⟨b, o, c, A', c', rfl, hB, fun j y hy => ?_, hp⟩
  have hj : j < m := by have := (List.getElem?_eq_some_iff.1 hy).1; rwa [hm] at this
  have cj := flat2_at hm ms vs i a _ j h1 hi hv hj
  rw [Nat.add_assoc]
  exact hc _ _ (cj.trans hy)
theorem ManyV.more' {α : Type} {f : α → Value → List Value} {m : Nat} {bf : α → List UInt8} {w w' : World} {v : Value} {ps : List α} (h : ManyV f m bf w w.heap.size v ps) (hb : Below w.heap.size w w') : ManyV f m bf w' w.heap.size v ps := h.below hb
set_option maxRecDepth 100000 in
set_option maxHeartbeats 4000000 in
theorem sameparts_any (a b : Value) (ms : List (List UInt8)) (w : World) (ha : PartsV w w.heap.size a ms) (hb : PartsV w w.heap.size b ms) (hle : ms.length ≤ 65536) :
    Calls Try.prog 65 #[a, b] w fun e w' => e = .returned (.bool true) ∧ Below w.heap.size w w' := by
  obtain ⟨A, c, rfl⟩ : ∃ A c, a = .slice A ms.length c := by
    obtain ⟨_, _, ⟨A, c, h, _⟩, _⟩ := id ha
    exact ⟨A, c, h⟩
  obtain ⟨A', c', rfl⟩ : ∃ A c, b = .slice A ms.length c := by
    obtain ⟨_, _, ⟨A, c, h, _⟩, _⟩ := id hb
    exact ⟨A, c, h⟩
  have HA := Lib.hid ha
  have HB := Lib.hid hb
  have HLE := Lib.hid hle
  clear ha hb
  go_enter Try.func65, Try.ntmps65
  go_wp2_with fail
  go_loopw [5] (fun i wr => ∃ j : Nat, j ≤ ms.length ∧ i = .int .i64 j ∧ Below w.heap.size w wr) (fun i _ => ms.length - (intOf i).toNat)
  case atStart => exact ⟨0, Nat.zero_le _, rfl, Below.refl _ _⟩
  case round =>
    obtain ⟨j, hj, rfl, hbel⟩ := hrel
    have HBE := Lib.hid hbel
    by_cases hlt : j < ms.length
    · have hej := List.getElem?_eq_getElem hlt
      have ij : (j : Int) < (ms.length : Int) := by omega
      have i0 : (0 : Int) ≤ (j : Int) := by omega
      obtain ⟨b1, o1, x1, A1, c1, hf1, hB1, k1, s1⟩ := part_cell (HA.out.below hbel) hej
      injection hf1 with hf1 _ hf3
      subst hf1 hf3
      obtain ⟨b2, o2, x2, A2, c2, hf2, hB2, k2, s2⟩ := part_cell (HB.out.below hbel) hej
      injection hf2 with hf2 _ hf3
      subst hf2 hf3
      have hz1 : b1 < wr.heap.size := Nat.lt_of_lt_of_le hB1 hbel.size
      have hz2 : b2 < wr.heap.size := Nat.lt_of_lt_of_le hB2 hbel.size
      have HS1 := Lib.hid (s1.more hbel.size)
      have HS2 := Lib.hid (s2.more hbel.size)
      generalize ms[j] = y at *
      have CS := Lib.hid (fun (W : World) (hW : Below wr.heap.size wr W) => show Calls Try.prog 18 #[.slice A1 y.length c1, .slice A2 y.length c2] W fun e w' => e = .returned (.bool true) ∧ W = w' by
        have h := same_any _ _ y y W (HS1.out.on hW) (HS2.out.on hW)
        rwa [decide_eq_true rfl] at h)
      clear s1 s2 hej hbel
      obtain ⟨wo, rfl⟩ : ∃ wo : World, wo = wr := ⟨_, rfl⟩
      go_upto_region 6 with fail
      go_cut [26] (fun t wx => t = .bool false ∧ Below wo.heap.size wo wx)
      case first =>
        go_region_held3 (fun w' => w'.cell? ⟨b1, o1 + j, none⟩ = some (.slice A1 y.length c1) ∧ w'.cell? ⟨b2, o2 + j, none⟩ = some (.slice A2 y.length c2)) (go_keep) (first | (go_at_call 18; refine (CS.out _ (below_drewN (Below.refl _ _) 1)).mono ?_; rintro e w2 ⟨rfl, rfl⟩))
        all_goals
          go_wp2_with fail
          go_meet
          exact ⟨rfl, below_drewN (Below.refl _ _) 1⟩
      case rest =>
        obtain ⟨rfl, hbx⟩ := hcut
        have HX := Lib.hid (bthen HBE.out hbx)
        clear hbx k1 k2
        go_wp2_with fail
        go_roundw
        case rel => exact ⟨j + 1, by omega, by go_num, HX.out⟩
        case measure => simp [intOf]; omega
    · have hje : j = ms.length := by omega
      subst hje
      go_wp2_with fail
      go_ret
      exact ⟨rfl, HBE.out⟩
set_option maxRecDepth 100000 in
set_option maxHeartbeats 4000000 in
theorem samelows_any (a b : Value) (ms : List (Low × List UInt8)) (w : World) (ha : LowsV w w.heap.size a ms) (hb : LowsV w w.heap.size b ms) (hle : ms.length ≤ 65536) :
    Calls Try.prog 50 #[a, b] w fun e w' => e = .returned (.bool true) ∧ Below w.heap.size w w' := by
  obtain ⟨A, c, rfl⟩ : ∃ A c, a = .slice A ms.length c := by
    obtain ⟨_, _, ⟨A, c, h, _⟩, _⟩ := id ha
    exact ⟨A, c, h⟩
  obtain ⟨A', c', rfl⟩ : ∃ A c, b = .slice A ms.length c := by
    obtain ⟨_, _, ⟨A, c, h, _⟩, _⟩ := id hb
    exact ⟨A, c, h⟩
  have HA := Lib.hid ha
  have HB := Lib.hid hb
  have HLE := Lib.hid hle
  clear ha hb
  go_enter Try.func50, Try.ntmps50
  go_wp2_with fail
  go_loopw [5] (fun i wr => ∃ j : Nat, j ≤ ms.length ∧ i = .int .i64 j ∧ Below w.heap.size w wr) (fun i _ => ms.length - (intOf i).toNat)
  case atStart => exact ⟨0, Nat.zero_le _, rfl, Below.refl _ _⟩
  case round =>
    obtain ⟨j, hj, rfl, hbel⟩ := hrel
    have HBE := Lib.hid hbel
    by_cases hlt : j < ms.length
    · have hej := List.getElem?_eq_getElem hlt
      have ij : (j : Int) < (ms.length : Int) := by omega
      have i0 : (0 : Int) ≤ (j : Int) := by omega
      obtain ⟨b1, o1, x1, A1, c1, hf1, hB1, k1, s1⟩ := many_cells lowF_len (by omega) (HA.out.below hbel) hej
      injection hf1 with hf1 _ hf3
      subst hf1 hf3
      obtain ⟨b2, o2, x2, A2, c2, hf2, hB2, k2, s2⟩ := many_cells lowF_len (by omega) (HB.out.below hbel) hej
      injection hf2 with hf2 _ hf3
      subst hf2 hf3
      have hz1 : b1 < wr.heap.size := Nat.lt_of_lt_of_le hB1 hbel.size
      have hz2 : b2 < wr.heap.size := Nat.lt_of_lt_of_le hB2 hbel.size
      have HS1 := Lib.hid (s1.more hbel.size)
      have HS2 := Lib.hid (s2.more hbel.size)
      generalize ms[j] = y at *
      obtain ⟨p, bl⟩ := y
      have CS := Lib.hid (fun (W : World) (hW : Below wr.heap.size wr W) => show Calls Try.prog 21 #[lowV p (.slice A1 bl.length c1), lowV p (.slice A2 bl.length c2)] W fun e w' => e = .returned (.bool true) ∧ Below W.heap.size W w' by
        have h := samelow_any p p _ _ bl bl W (HS1.out.on hW) (HS2.out.on hW)
        rwa [decide_eq_true ⟨rfl, rfl⟩] at h)
      obtain ⟨ct, sg, ap, ze, ix, la, op, bk, fr⟩ := p
      have d0 : wr.cell? ⟨b1, o1 + j * 10, none⟩ = some (.bool ct) := k1 0 _ rfl
      have d1 : wr.cell? ⟨b1, o1 + j * 10 + 1, none⟩ = some (.bool sg) := k1 1 _ rfl
      have d2 : wr.cell? ⟨b1, o1 + j * 10 + 2, none⟩ = some (.bool ap) := k1 2 _ rfl
      have d3 : wr.cell? ⟨b1, o1 + j * 10 + 3, none⟩ = some (.int .i64 ze) := k1 3 _ rfl
      have d4 : wr.cell? ⟨b1, o1 + j * 10 + 4, none⟩ = some (.int .i64 ix) := k1 4 _ rfl
      have d5 : wr.cell? ⟨b1, o1 + j * 10 + 5, none⟩ = some (.int .i64 la) := k1 5 _ rfl
      have d6 : wr.cell? ⟨b1, o1 + j * 10 + 6, none⟩ = some (.int .i64 op) := k1 6 _ rfl
      have d7 : wr.cell? ⟨b1, o1 + j * 10 + 7, none⟩ = some (.int .u32 (bk : Int)) := k1 7 _ rfl
      have d8 : wr.cell? ⟨b1, o1 + j * 10 + 8, none⟩ = some (.bool fr) := k1 8 _ rfl
      have d9 : wr.cell? ⟨b1, o1 + j * 10 + 9, none⟩ = some (.slice A1 bl.length c1) := k1 9 _ rfl
      have e0 : wr.cell? ⟨b2, o2 + j * 10, none⟩ = some (.bool ct) := k2 0 _ rfl
      have e1 : wr.cell? ⟨b2, o2 + j * 10 + 1, none⟩ = some (.bool sg) := k2 1 _ rfl
      have e2 : wr.cell? ⟨b2, o2 + j * 10 + 2, none⟩ = some (.bool ap) := k2 2 _ rfl
      have e3 : wr.cell? ⟨b2, o2 + j * 10 + 3, none⟩ = some (.int .i64 ze) := k2 3 _ rfl
      have e4 : wr.cell? ⟨b2, o2 + j * 10 + 4, none⟩ = some (.int .i64 ix) := k2 4 _ rfl
      have e5 : wr.cell? ⟨b2, o2 + j * 10 + 5, none⟩ = some (.int .i64 la) := k2 5 _ rfl
      have e6 : wr.cell? ⟨b2, o2 + j * 10 + 6, none⟩ = some (.int .i64 op) := k2 6 _ rfl
      have e7 : wr.cell? ⟨b2, o2 + j * 10 + 7, none⟩ = some (.int .u32 (bk : Int)) := k2 7 _ rfl
      have e8 : wr.cell? ⟨b2, o2 + j * 10 + 8, none⟩ = some (.bool fr) := k2 8 _ rfl
      have e9 : wr.cell? ⟨b2, o2 + j * 10 + 9, none⟩ = some (.slice A2 bl.length c2) := k2 9 _ rfl
      clear s1 s2 hej hbel k1 k2
      obtain ⟨wo, rfl⟩ : ∃ wo : World, wo = wr := ⟨_, rfl⟩
      go_upto_region 6 with fail
      go_cut [26] (fun t wx => t = .bool false ∧ Below wo.heap.size wo wx)
      case first =>
        go_region_held3 (fun w' => w'.cell? ⟨b1, o1 + j * 10, none⟩ = some (.bool ct) ∧ w'.cell? ⟨b1, o1 + j * 10 + 1, none⟩ = some (.bool sg) ∧ w'.cell? ⟨b1, o1 + j * 10 + 2, none⟩ = some (.bool ap) ∧ w'.cell? ⟨b1, o1 + j * 10 + 3, none⟩ = some (.int .i64 ze) ∧ w'.cell? ⟨b1, o1 + j * 10 + 4, none⟩ = some (.int .i64 ix) ∧ w'.cell? ⟨b1, o1 + j * 10 + 5, none⟩ = some (.int .i64 la) ∧ w'.cell? ⟨b1, o1 + j * 10 + 6, none⟩ = some (.int .i64 op) ∧ w'.cell? ⟨b1, o1 + j * 10 + 7, none⟩ = some (.int .u32 (bk : Int)) ∧ w'.cell? ⟨b1, o1 + j * 10 + 8, none⟩ = some (.bool fr) ∧ w'.cell? ⟨b1, o1 + j * 10 + 9, none⟩ = some (.slice A1 bl.length c1) ∧ w'.cell? ⟨b2, o2 + j * 10, none⟩ = some (.bool ct) ∧ w'.cell? ⟨b2, o2 + j * 10 + 1, none⟩ = some (.bool sg) ∧ w'.cell? ⟨b2, o2 + j * 10 + 2, none⟩ = some (.bool ap) ∧ w'.cell? ⟨b2, o2 + j * 10 + 3, none⟩ = some (.int .i64 ze) ∧ w'.cell? ⟨b2, o2 + j * 10 + 4, none⟩ = some (.int .i64 ix) ∧ w'.cell? ⟨b2, o2 + j * 10 + 5, none⟩ = some (.int .i64 la) ∧ w'.cell? ⟨b2, o2 + j * 10 + 6, none⟩ = some (.int .i64 op) ∧ w'.cell? ⟨b2, o2 + j * 10 + 7, none⟩ = some (.int .u32 (bk : Int)) ∧ w'.cell? ⟨b2, o2 + j * 10 + 8, none⟩ = some (.bool fr) ∧ w'.cell? ⟨b2, o2 + j * 10 + 9, none⟩ = some (.slice A2 bl.length c2)) (go_keep) (first | (go_at_call 21; refine (CS.out _ (below_drewN (Below.refl _ _) 1)).mono ?_; rintro e w2 ⟨rfl, hb2⟩; have hc2 := bfar wo.heap.size hb2 (by simp); have HB2 := Lib.hid (bthen (below_drewN (Below.refl _ _) 1) hb2); clear hb2))
        all_goals
          go_wp2_with fail
          go_meet
          exact ⟨rfl, HB2.out⟩
      case rest =>
        obtain ⟨rfl, hbx⟩ := hcut
        have HX := Lib.hid (bthen HBE.out hbx)
        clear hbx d0 e0 d1 e1 d2 e2 d3 e3 d4 e4 d5 e5 d6 e6 d7 e7 d8 e8 d9 e9
        go_wp2_with fail
        go_roundw
        case rel => exact ⟨j + 1, by omega, by go_num, HX.out⟩
        case measure => simp [intOf]; omega
    · have hje : j = ms.length := by omega
      subst hje
      go_wp2_with fail
      go_ret
      exact ⟨rfl, HBE.out⟩
set_option maxRecDepth 100000 in
set_option maxHeartbeats 4000000 in
theorem sameaddr_any (a b : Value) (ms : List Nat) (w : World) (ha : Sl w w.heap.size 1 a ms.length (u16s ms)) (hb : Sl w w.heap.size 1 b ms.length (u16s ms)) (hle : ms.length ≤ 65536) :
    Calls Try.prog 55 #[a, b] w fun e w' => e = .returned (.bool true) ∧ Below w.heap.size w w' := by
  obtain ⟨A, c, rfl⟩ : ∃ A c, a = .slice A ms.length c := by
    obtain ⟨A, c, h, _⟩ := id ha
    exact ⟨A, c, h⟩
  obtain ⟨A', c', rfl⟩ : ∃ A c, b = .slice A ms.length c := by
    obtain ⟨A, c, h, _⟩ := id hb
    exact ⟨A, c, h⟩
  have HA := Lib.hid ha
  have HB := Lib.hid hb
  have HLE := Lib.hid hle
  clear ha hb
  go_enter Try.func55, Try.ntmps55
  go_wp2_with fail
  go_loopw [5] (fun i wr => ∃ j : Nat, j ≤ ms.length ∧ i = .int .i64 j ∧ Below w.heap.size w wr) (fun i _ => ms.length - (intOf i).toNat)
  case atStart => exact ⟨0, Nat.zero_le _, rfl, Below.refl _ _⟩
  case round =>
    obtain ⟨j, hj, rfl, hbel⟩ := hrel
    have HBE := Lib.hid hbel
    by_cases hlt : j < ms.length
    · have hej := List.getElem?_eq_getElem hlt
      have ij : (j : Int) < (ms.length : Int) := by omega
      have i0 : (0 : Int) ≤ (j : Int) := by omega
      obtain ⟨b1, o1, hf1, hB1, k1⟩ := (HA.out.below hbel).cells (show (u16s ms)[j]? = some (.int .u16 ((ms[j] : Nat) : Int)) by unfold u16s; rw [List.getElem?_map, hej]; rfl)
      subst hf1
      obtain ⟨b2, o2, hf2, hB2, k2⟩ := (HB.out.below hbel).cells (show (u16s ms)[j]? = some (.int .u16 ((ms[j] : Nat) : Int)) by unfold u16s; rw [List.getElem?_map, hej]; rfl)
      subst hf2
      have hz1 : b1 < wr.heap.size := Nat.lt_of_lt_of_le hB1 hbel.size
      have hz2 : b2 < wr.heap.size := Nat.lt_of_lt_of_le hB2 hbel.size
      have d0 := k1 j _ (show (u16s ms)[j]? = some (.int .u16 ((ms[j] : Nat) : Int)) by unfold u16s; rw [List.getElem?_map, hej]; rfl)
      have e0 := k2 j _ (show (u16s ms)[j]? = some (.int .u16 ((ms[j] : Nat) : Int)) by unfold u16s; rw [List.getElem?_map, hej]; rfl)
      generalize ms[j] = y at *
      clear hej hbel k1 k2
      obtain ⟨wo, rfl⟩ : ∃ wo : World, wo = wr := ⟨_, rfl⟩
      go_upto_region 6 with fail
      go_cut [25] (fun t wx => t = .bool false ∧ Below wo.heap.size wo wx)
      case first =>
        go_region_held3 (fun w' => w'.cell? ⟨b1, o1 + j, none⟩ = some (.int .u16 (y : Int)) ∧ w'.cell? ⟨b2, o2 + j, none⟩ = some (.int .u16 (y : Int))) (go_keep) (fail)
        all_goals
          go_wp2_with fail
          go_meet
          exact ⟨by simp, below_drewN (Below.refl _ _) 1⟩
      case rest =>
        obtain ⟨rfl, hbx⟩ := hcut
        have HX := Lib.hid (bthen HBE.out hbx)
        clear hbx d0 e0
        go_wp2_with fail
        go_roundw
        case rel => exact ⟨j + 1, by omega, by go_num, HX.out⟩
        case measure => simp [intOf]; omega
    · have hje : j = ms.length := by omega
      subst hje
      go_wp2_with fail
      go_ret
      exact ⟨rfl, HBE.out⟩
set_option maxRecDepth 100000 in
set_option maxHeartbeats 4000000 in
theorem sameouts_any (a b : Value) (ms : List Outw) (w : World) (ha : OutwsV w w.heap.size a ms) (hb : OutwsV w w.heap.size b ms) (hle : ms.length ≤ 65536) :
    Calls Try.prog 54 #[a, b] w fun e w' => e = .returned (.bool true) ∧ Below w.heap.size w w' := by
  obtain ⟨A, c, rfl⟩ : ∃ A c, a = .slice A ms.length c := by
    obtain ⟨_, _, ⟨A, c, h, _⟩, _⟩ := id ha
    exact ⟨A, c, h⟩
  obtain ⟨A', c', rfl⟩ : ∃ A c, b = .slice A ms.length c := by
    obtain ⟨_, _, ⟨A, c, h, _⟩, _⟩ := id hb
    exact ⟨A, c, h⟩
  have HA := Lib.hid ha
  have HB := Lib.hid hb
  have HLE := Lib.hid hle
  clear ha hb
  go_enter Try.func54, Try.ntmps54
  go_wp2_with fail
  go_loopw [5] (fun i wr => ∃ j : Nat, j ≤ ms.length ∧ i = .int .i64 j ∧ Below w.heap.size w wr) (fun i _ => ms.length - (intOf i).toNat)
  case atStart => exact ⟨0, Nat.zero_le _, rfl, Below.refl _ _⟩
  case round =>
    obtain ⟨j, hj, rfl, hbel⟩ := hrel
    have HBE := Lib.hid hbel
    by_cases hlt : j < ms.length
    · have hej := List.getElem?_eq_getElem hlt
      have ij : (j : Int) < (ms.length : Int) := by omega
      have i0 : (0 : Int) ≤ (j : Int) := by omega
      obtain ⟨b1, o1, x1, A1, c1, hf1, hB1, k1, s1⟩ := many_cells owF_len (by omega) (HA.out.below hbel) hej
      injection hf1 with hf1 _ hf3
      subst hf1 hf3
      obtain ⟨b2, o2, x2, A2, c2, hf2, hB2, k2, s2⟩ := many_cells owF_len (by omega) (HB.out.below hbel) hej
      injection hf2 with hf2 _ hf3
      subst hf2 hf3
      have hz1 : b1 < wr.heap.size := Nat.lt_of_lt_of_le hB1 hbel.size
      have hz2 : b2 < wr.heap.size := Nat.lt_of_lt_of_le hB2 hbel.size
      have HS1 := Lib.hid (s1.more hbel.size)
      have HS2 := Lib.hid (s2.more hbel.size)
      generalize ms[j] = y at *
      obtain ⟨⟨src, dst, ttl, p⟩, bl⟩ := y
      have CS := Lib.hid (fun (W : World) (hW : Below wr.heap.size wr W) => show Calls Try.prog 21 #[lowV p (.slice A1 bl.length c1), lowV p (.slice A2 bl.length c2)] W fun e w' => e = .returned (.bool true) ∧ Below W.heap.size W w' by
        have h := samelow_any p p _ _ bl bl W (HS1.out.on hW) (HS2.out.on hW)
        rwa [decide_eq_true ⟨rfl, rfl⟩] at h)
      obtain ⟨ct, sg, ap, ze, ix, la, op, bk, fr⟩ := p
      have d0 : wr.cell? ⟨b1, o1 + j * 13, none⟩ = some (.int .u16 (src : Int)) := k1 0 _ rfl
      have d1 : wr.cell? ⟨b1, o1 + j * 13 + 1, none⟩ = some (.int .u16 (dst : Int)) := k1 1 _ rfl
      have d2 : wr.cell? ⟨b1, o1 + j * 13 + 2, none⟩ = some (.int .i64 ttl) := k1 2 _ rfl
      have d3 : wr.cell? ⟨b1, o1 + j * 13 + 3, none⟩ = some (.bool ct) := k1 3 _ rfl
      have d4 : wr.cell? ⟨b1, o1 + j * 13 + 4, none⟩ = some (.bool sg) := k1 4 _ rfl
      have d5 : wr.cell? ⟨b1, o1 + j * 13 + 5, none⟩ = some (.bool ap) := k1 5 _ rfl
      have d6 : wr.cell? ⟨b1, o1 + j * 13 + 6, none⟩ = some (.int .i64 ze) := k1 6 _ rfl
      have d7 : wr.cell? ⟨b1, o1 + j * 13 + 7, none⟩ = some (.int .i64 ix) := k1 7 _ rfl
      have d8 : wr.cell? ⟨b1, o1 + j * 13 + 8, none⟩ = some (.int .i64 la) := k1 8 _ rfl
      have d9 : wr.cell? ⟨b1, o1 + j * 13 + 9, none⟩ = some (.int .i64 op) := k1 9 _ rfl
      have d10 : wr.cell? ⟨b1, o1 + j * 13 + 10, none⟩ = some (.int .u32 (bk : Int)) := k1 10 _ rfl
      have d11 : wr.cell? ⟨b1, o1 + j * 13 + 11, none⟩ = some (.bool fr) := k1 11 _ rfl
      have d12 : wr.cell? ⟨b1, o1 + j * 13 + 12, none⟩ = some (.slice A1 bl.length c1) := k1 12 _ rfl
      have e0 : wr.cell? ⟨b2, o2 + j * 13, none⟩ = some (.int .u16 (src : Int)) := k2 0 _ rfl
      have e1 : wr.cell? ⟨b2, o2 + j * 13 + 1, none⟩ = some (.int .u16 (dst : Int)) := k2 1 _ rfl
      have e2 : wr.cell? ⟨b2, o2 + j * 13 + 2, none⟩ = some (.int .i64 ttl) := k2 2 _ rfl
      have e3 : wr.cell? ⟨b2, o2 + j * 13 + 3, none⟩ = some (.bool ct) := k2 3 _ rfl
      have e4 : wr.cell? ⟨b2, o2 + j * 13 + 4, none⟩ = some (.bool sg) := k2 4 _ rfl
      have e5 : wr.cell? ⟨b2, o2 + j * 13 + 5, none⟩ = some (.bool ap) := k2 5 _ rfl
      have e6 : wr.cell? ⟨b2, o2 + j * 13 + 6, none⟩ = some (.int .i64 ze) := k2 6 _ rfl
      have e7 : wr.cell? ⟨b2, o2 + j * 13 + 7, none⟩ = some (.int .i64 ix) := k2 7 _ rfl
      have e8 : wr.cell? ⟨b2, o2 + j * 13 + 8, none⟩ = some (.int .i64 la) := k2 8 _ rfl
      have e9 : wr.cell? ⟨b2, o2 + j * 13 + 9, none⟩ = some (.int .i64 op) := k2 9 _ rfl
      have e10 : wr.cell? ⟨b2, o2 + j * 13 + 10, none⟩ = some (.int .u32 (bk : Int)) := k2 10 _ rfl
      have e11 : wr.cell? ⟨b2, o2 + j * 13 + 11, none⟩ = some (.bool fr) := k2 11 _ rfl
      have e12 : wr.cell? ⟨b2, o2 + j * 13 + 12, none⟩ = some (.slice A2 bl.length c2) := k2 12 _ rfl
      clear s1 s2 hej hbel k1 k2
      obtain ⟨wo, rfl⟩ : ∃ wo : World, wo = wr := ⟨_, rfl⟩
      go_upto_region 6 with fail
      go_cut [67] (fun t wx => t = .bool false ∧ Below wo.heap.size wo wx)
      case first =>
        go_region_held3 (fun w' => w'.cell? ⟨b1, o1 + j * 13, none⟩ = some (.int .u16 (src : Int)) ∧ w'.cell? ⟨b1, o1 + j * 13 + 1, none⟩ = some (.int .u16 (dst : Int)) ∧ w'.cell? ⟨b1, o1 + j * 13 + 2, none⟩ = some (.int .i64 ttl) ∧ w'.cell? ⟨b1, o1 + j * 13 + 3, none⟩ = some (.bool ct) ∧ w'.cell? ⟨b1, o1 + j * 13 + 4, none⟩ = some (.bool sg) ∧ w'.cell? ⟨b1, o1 + j * 13 + 5, none⟩ = some (.bool ap) ∧ w'.cell? ⟨b1, o1 + j * 13 + 6, none⟩ = some (.int .i64 ze) ∧ w'.cell? ⟨b1, o1 + j * 13 + 7, none⟩ = some (.int .i64 ix) ∧ w'.cell? ⟨b1, o1 + j * 13 + 8, none⟩ = some (.int .i64 la) ∧ w'.cell? ⟨b1, o1 + j * 13 + 9, none⟩ = some (.int .i64 op) ∧ w'.cell? ⟨b1, o1 + j * 13 + 10, none⟩ = some (.int .u32 (bk : Int)) ∧ w'.cell? ⟨b1, o1 + j * 13 + 11, none⟩ = some (.bool fr) ∧ w'.cell? ⟨b1, o1 + j * 13 + 12, none⟩ = some (.slice A1 bl.length c1) ∧ w'.cell? ⟨b2, o2 + j * 13, none⟩ = some (.int .u16 (src : Int)) ∧ w'.cell? ⟨b2, o2 + j * 13 + 1, none⟩ = some (.int .u16 (dst : Int)) ∧ w'.cell? ⟨b2, o2 + j * 13 + 2, none⟩ = some (.int .i64 ttl) ∧ w'.cell? ⟨b2, o2 + j * 13 + 3, none⟩ = some (.bool ct) ∧ w'.cell? ⟨b2, o2 + j * 13 + 4, none⟩ = some (.bool sg) ∧ w'.cell? ⟨b2, o2 + j * 13 + 5, none⟩ = some (.bool ap) ∧ w'.cell? ⟨b2, o2 + j * 13 + 6, none⟩ = some (.int .i64 ze) ∧ w'.cell? ⟨b2, o2 + j * 13 + 7, none⟩ = some (.int .i64 ix) ∧ w'.cell? ⟨b2, o2 + j * 13 + 8, none⟩ = some (.int .i64 la) ∧ w'.cell? ⟨b2, o2 + j * 13 + 9, none⟩ = some (.int .i64 op) ∧ w'.cell? ⟨b2, o2 + j * 13 + 10, none⟩ = some (.int .u32 (bk : Int)) ∧ w'.cell? ⟨b2, o2 + j * 13 + 11, none⟩ = some (.bool fr) ∧ w'.cell? ⟨b2, o2 + j * 13 + 12, none⟩ = some (.slice A2 bl.length c2)) (go_keep) (first | (go_at_call 21; refine (CS.out _ (below_drewN (Below.refl _ _) 1)).mono ?_; rintro e w2 ⟨rfl, hb2⟩; have hc2 := bfar wo.heap.size hb2 (by simp); have HB2 := Lib.hid (bthen (below_drewN (Below.refl _ _) 1) hb2); clear hb2))
        all_goals
          go_wp2_with fail
          go_meet
          exact ⟨by simp, HB2.out⟩
      case rest =>
        obtain ⟨rfl, hbx⟩ := hcut
        have HX := Lib.hid (bthen HBE.out hbx)
        clear hbx d0 e0 d1 e1 d2 e2 d3 e3 d4 e4 d5 e5 d6 e6 d7 e7 d8 e8 d9 e9 d10 e10 d11 e11 d12 e12
        go_wp2_with fail
        go_roundw
        case rel => exact ⟨j + 1, by omega, by go_num, HX.out⟩
        case measure => simp [intOf]; omega
    · have hje : j = ms.length := by omega
      subst hje
      go_wp2_with fail
      go_ret
      exact ⟨rfl, HBE.out⟩

set_option maxRecDepth 100000 in
set_option maxHeartbeats 8000000 in
theorem samest_any (os : List OutS) (is : List InS) (v u v' u' : Value) (w : World) (h1 : RowV outCs 10 OutS.parts w w.heap.size v os) (h2 : RowV inCs 11 InS.parts w w.heap.size u is) (h3 : RowV outCs 10 OutS.parts w w.heap.size v' os) (h4 : RowV inCs 11 InS.parts w w.heap.size u' is)
    (hol : os.length ≤ 65536) (hil : is.length ≤ 65536) (hso : ∀ o ∈ os, o.parts.length ≤ 65536) (hsi : ∀ x ∈ is, x.parts.length ≤ 65536) :
    Calls Try.prog 49 #[.agg #[v, u], .agg #[v', u']] w fun e w' => e = .returned (.bool true) ∧ Below w.heap.size w w' := by
  obtain ⟨Ao, co, rfl⟩ := rowV_form h1
  obtain ⟨Ai, ci, rfl⟩ := rowV_form h2
  obtain ⟨Ao', co', rfl⟩ := rowV_form h3
  obtain ⟨Ai', ci', rfl⟩ := rowV_form h4
  have H1 := Lib.hid h1
  have H2 := Lib.hid h2
  have H3 := Lib.hid h3
  have H4 := Lib.hid h4
  have HSO := Lib.hid hso
  have HSI := Lib.hid hsi
  clear h1 h2 h3 h4 hso hsi
  go_enter Try.func49, Try.ntmps49
  go_upto_region 1 with fail
  obtain ⟨W, hW⟩ : ∃ W, W = (w.alloc (.cells #[.slice Ao os.length co, .slice Ai is.length ci] 47)).alloc (.cells #[.slice Ao' os.length co', .slice Ai' is.length ci'] 47) := ⟨_, rfl⟩
  have HW0 := Lib.hid (show Below w.heap.size w W by rw [hW]; exact al2 _ _ _)
  have B0 := Lib.hid (show Box W w.heap.size [.slice Ao os.length co, .slice Ai is.length ci] by rw [hW]; exact (Box.new _ _ _).alloc _)
  have B1 := Lib.hid (show Box W (w.heap.size + 1) [.slice Ao' os.length co', .slice Ai' is.length ci'] from ⟨47, by rw [hW, heap_al, if_pos (by simp)]⟩)
  rw [← hW]
  clear hW
  have p0 := B0.out.cell (j := 0) rfl
  have p1 := B0.out.cell (j := 1) rfl
  have p2 := B1.out.cell (j := 0) rfl
  have p3 := B1.out.cell (j := 1) rfl
  have zb0 := B0.out.lt
  have zb1 := B1.out.lt
  go_wp2_with fail
  clear p0 p1 p2 p3 zb0 zb1
  go_loopw [5] (fun i wr => ∃ j : Nat, j ≤ os.length ∧ i = .int .i64 j ∧ Below W.heap.size W wr) (fun i _ => os.length - (intOf i).toNat)
  case atStart => exact ⟨0, Nat.zero_le _, rfl, Below.refl _ _⟩
  case round =>
    obtain ⟨j, hj, rfl, hbel⟩ := hrel
    have HBE := Lib.hid hbel
    by_cases hlt : j < os.length
    · have hej := List.getElem?_eq_getElem hlt
      have ij : (j : Int) < (os.length : Int) := by omega
      have i0 : (0 : Int) ≤ (j : Int) := by omega
      obtain ⟨b1, o1, x1, A1, c1, hf1, hB1, k1, s1⟩ := row_cells (m := 10) (f := outCs) (fun _ _ => rfl) (by omega) (H1.out.below (HW0.out.trans (hbel.mono HW0.out.size))) hej
      injection hf1 with hf1 _ hf3
      subst hf1 hf3
      obtain ⟨b2, o2, x2, A2, c2, hf2, hB2, k2, s2⟩ := row_cells (m := 10) (f := outCs) (fun _ _ => rfl) (by omega) (H3.out.below (HW0.out.trans (hbel.mono HW0.out.size))) hej
      injection hf2 with hf2 _ hf3
      subst hf2 hf3
      have hws := HW0.out.size
      have hz1 : b1 < wr.heap.size := Nat.lt_of_lt_of_le hB1 (Nat.le_trans hws hbel.size)
      have hz2 : b2 < wr.heap.size := Nat.lt_of_lt_of_le hB2 (Nat.le_trans hws hbel.size)
      have HS1 := Lib.hid (s1.more (Nat.le_trans hws hbel.size))
      have HS2 := Lib.hid (s2.more (Nat.le_trans hws hbel.size))
      have HPL := Lib.hid (HSO.out _ (List.getElem_mem hlt))
      have p0 := (B0.out.on hbel).cell (j := 0) rfl
      have p1 := (B0.out.on hbel).cell (j := 1) rfl
      have p2 := (B1.out.on hbel).cell (j := 0) rfl
      have p3 := (B1.out.on hbel).cell (j := 1) rfl
      have zb0 := (B0.out.on hbel).lt
      have zb1 := (B1.out.on hbel).lt
      generalize os[j] = y at *
      obtain ⟨dst, src, app, zer, iv, ps, ackd, due, tries, ttl⟩ := y
      dsimp only at HPL
      have d0 : wr.cell? ⟨b1, o1 + j * 10, none⟩ = some (.int .u16 (dst : Int)) := k1 0 _ rfl
      have d1 : wr.cell? ⟨b1, o1 + j * 10 + 1, none⟩ = some (.int .u16 (src : Int)) := k1 1 _ rfl
      have d2 : wr.cell? ⟨b1, o1 + j * 10 + 2, none⟩ = some (.bool app) := k1 2 _ rfl
      have d3 : wr.cell? ⟨b1, o1 + j * 10 + 3, none⟩ = some (.int .u32 (zer : Int)) := k1 3 _ rfl
      have d4 : wr.cell? ⟨b1, o1 + j * 10 + 4, none⟩ = some (.int .u32 (iv : Int)) := k1 4 _ rfl
      have d5 : wr.cell? ⟨b1, o1 + j * 10 + 5, none⟩ = some (.slice A1 ps.length c1) := k1 5 _ rfl
      have d6 : wr.cell? ⟨b1, o1 + j * 10 + 6, none⟩ = some (.int .u32 (ackd : Int)) := k1 6 _ rfl
      have d7 : wr.cell? ⟨b1, o1 + j * 10 + 7, none⟩ = some (.int .i64 due) := k1 7 _ rfl
      have d8 : wr.cell? ⟨b1, o1 + j * 10 + 8, none⟩ = some (.int .i64 tries) := k1 8 _ rfl
      have d9 : wr.cell? ⟨b1, o1 + j * 10 + 9, none⟩ = some (.int .i64 ttl) := k1 9 _ rfl
      have e0 : wr.cell? ⟨b2, o2 + j * 10, none⟩ = some (.int .u16 (dst : Int)) := k2 0 _ rfl
      have e1 : wr.cell? ⟨b2, o2 + j * 10 + 1, none⟩ = some (.int .u16 (src : Int)) := k2 1 _ rfl
      have e2 : wr.cell? ⟨b2, o2 + j * 10 + 2, none⟩ = some (.bool app) := k2 2 _ rfl
      have e3 : wr.cell? ⟨b2, o2 + j * 10 + 3, none⟩ = some (.int .u32 (zer : Int)) := k2 3 _ rfl
      have e4 : wr.cell? ⟨b2, o2 + j * 10 + 4, none⟩ = some (.int .u32 (iv : Int)) := k2 4 _ rfl
      have e5 : wr.cell? ⟨b2, o2 + j * 10 + 5, none⟩ = some (.slice A2 ps.length c2) := k2 5 _ rfl
      have e6 : wr.cell? ⟨b2, o2 + j * 10 + 6, none⟩ = some (.int .u32 (ackd : Int)) := k2 6 _ rfl
      have e7 : wr.cell? ⟨b2, o2 + j * 10 + 7, none⟩ = some (.int .i64 due) := k2 7 _ rfl
      have e8 : wr.cell? ⟨b2, o2 + j * 10 + 8, none⟩ = some (.int .i64 tries) := k2 8 _ rfl
      have e9 : wr.cell? ⟨b2, o2 + j * 10 + 9, none⟩ = some (.int .i64 ttl) := k2 9 _ rfl
      clear k1 k2 s1 s2 hej hbel hws
      obtain ⟨wo, rfl⟩ : ∃ wo : World, wo = wr := ⟨_, rfl⟩
      go_upto_region 6 with fail
      go_cut [6, 7] (fun t6 t7 wx => ∃ m1 m2 : Nat, t6 = .pointer (some ⟨m1, 0, none⟩) ∧ t7 = .pointer (some ⟨m2, 0, none⟩) ∧ Box wx m1 [.int .u16 (dst : Int), .int .u16 (src : Int), .bool app, .int .u32 (zer : Int), .int .u32 (iv : Int), .slice A1 ps.length c1, .int .u32 (ackd : Int), .int .i64 due, .int .i64 tries, .int .i64 ttl] ∧ Box wx m2 [.int .u16 (dst : Int), .int .u16 (src : Int), .bool app, .int .u32 (zer : Int), .int .u32 (iv : Int), .slice A2 ps.length c2, .int .u32 (ackd : Int), .int .i64 due, .int .i64 tries, .int .i64 ttl] ∧ Below wo.heap.size wo wx)
      case first =>
        go_region_held3 (fun w' => w'.cell? ⟨w.heap.size, 0, none⟩ = some (.slice (some ⟨b1, o1, none⟩) os.length co) ∧ w'.cell? ⟨w.heap.size, 1, none⟩ = some (.slice Ai is.length ci) ∧ w'.cell? ⟨w.heap.size + 1, 0, none⟩ = some (.slice (some ⟨b2, o2, none⟩) os.length co') ∧ w'.cell? ⟨w.heap.size + 1, 1, none⟩ = some (.slice Ai' is.length ci') ∧ w'.cell? ⟨b1, o1 + j * 10, none⟩ = some (.int .u16 (dst : Int)) ∧ w'.cell? ⟨b1, o1 + j * 10 + 1, none⟩ = some (.int .u16 (src : Int)) ∧ w'.cell? ⟨b1, o1 + j * 10 + 2, none⟩ = some (.bool app) ∧ w'.cell? ⟨b1, o1 + j * 10 + 3, none⟩ = some (.int .u32 (zer : Int)) ∧ w'.cell? ⟨b1, o1 + j * 10 + 4, none⟩ = some (.int .u32 (iv : Int)) ∧ w'.cell? ⟨b1, o1 + j * 10 + 5, none⟩ = some (.slice A1 ps.length c1) ∧ w'.cell? ⟨b1, o1 + j * 10 + 6, none⟩ = some (.int .u32 (ackd : Int)) ∧ w'.cell? ⟨b1, o1 + j * 10 + 7, none⟩ = some (.int .i64 due) ∧ w'.cell? ⟨b1, o1 + j * 10 + 8, none⟩ = some (.int .i64 tries) ∧ w'.cell? ⟨b1, o1 + j * 10 + 9, none⟩ = some (.int .i64 ttl) ∧ w'.cell? ⟨b2, o2 + j * 10, none⟩ = some (.int .u16 (dst : Int)) ∧ w'.cell? ⟨b2, o2 + j * 10 + 1, none⟩ = some (.int .u16 (src : Int)) ∧ w'.cell? ⟨b2, o2 + j * 10 + 2, none⟩ = some (.bool app) ∧ w'.cell? ⟨b2, o2 + j * 10 + 3, none⟩ = some (.int .u32 (zer : Int)) ∧ w'.cell? ⟨b2, o2 + j * 10 + 4, none⟩ = some (.int .u32 (iv : Int)) ∧ w'.cell? ⟨b2, o2 + j * 10 + 5, none⟩ = some (.slice A2 ps.length c2) ∧ w'.cell? ⟨b2, o2 + j * 10 + 6, none⟩ = some (.int .u32 (ackd : Int)) ∧ w'.cell? ⟨b2, o2 + j * 10 + 7, none⟩ = some (.int .i64 due) ∧ w'.cell? ⟨b2, o2 + j * 10 + 8, none⟩ = some (.int .i64 tries) ∧ w'.cell? ⟨b2, o2 + j * 10 + 9, none⟩ = some (.int .i64 ttl)) (go_keep) (fail)
        all_goals
          clear p0 p1 p2 p3 d0 e0 d1 e1 d2 e2 d3 e3 d4 e4 d5 e5 d6 e6 d7 e7 d8 e8 d9 e9
          go_wp2_with fail
          go_meet
        all_goals
          first
            | exact ⟨wo.heap.size, wo.heap.size + 1, rfl, rfl, ((Box.new wo _ _).alloc _).drew, ⟨75, by rw [heap_dr, heap_al, if_pos (by simp)]⟩, below_drewN (al2 _ _ _) 1⟩
            | exact ⟨wo.heap.size + 1, wo.heap.size, rfl, rfl, ⟨75, by rw [heap_dr, heap_al, if_pos (by simp)]⟩, ((Box.new wo _ _).alloc _).drew, below_drewN (al2 _ _ _) 1⟩
            | fail
      case rest =>
        obtain ⟨m1, m2, rfl, rfl, hx1, hx2, hbx⟩ := hcut
        have HX := Lib.hid (bthen HBE.out hbx)
        have CS := Lib.hid (sameparts_any _ _ ps wc (HS1.out.on hbx) (HS2.out.on hbx) HPL.out)
        have r10 := hx1.cell (j := 0) rfl
        have r20 := hx2.cell (j := 0) rfl
        have r11 := hx1.cell (j := 1) rfl
        have r21 := hx2.cell (j := 1) rfl
        have r12 := hx1.cell (j := 2) rfl
        have r22 := hx2.cell (j := 2) rfl
        have r13 := hx1.cell (j := 3) rfl
        have r23 := hx2.cell (j := 3) rfl
        have r14 := hx1.cell (j := 4) rfl
        have r24 := hx2.cell (j := 4) rfl
        have r15 := hx1.cell (j := 5) rfl
        have r25 := hx2.cell (j := 5) rfl
        have r16 := hx1.cell (j := 6) rfl
        have r26 := hx2.cell (j := 6) rfl
        have r17 := hx1.cell (j := 7) rfl
        have r27 := hx2.cell (j := 7) rfl
        have r18 := hx1.cell (j := 8) rfl
        have r28 := hx2.cell (j := 8) rfl
        have r19 := hx1.cell (j := 9) rfl
        have r29 := hx2.cell (j := 9) rfl
        (try dsimp only at r10 r20 r11 r21 r12 r22 r13 r23 r14 r24 r15 r25 r16 r26 r17 r27 r18 r28 r19 r29)
        have y1 := hx1.lt
        have y2 := hx2.lt
        clear hx1 hx2 hbx p0 p1 p2 p3 d0 e0 d1 e1 d2 e2 d3 e3 d4 e4 d5 e5 d6 e6 d7 e7 d8 e8 d9 e9
        go_wp2_with fail
        refine CS.out.mono ?_
        rintro e w5 ⟨rfl, hb5⟩
        have HX5 := Lib.hid (bthen HX.out hb5)
        clear hb5 r10 r20 r11 r21 r12 r22 r13 r23 r14 r24 r15 r25 r16 r26 r17 r27 r18 r28 r19 r29
        go_wp2_with fail
        go_roundw
        case rel => exact ⟨j + 1, by omega, by go_num, HX5.out⟩
        case measure => simp [intOf]; omega
    · have hje : j = os.length := by omega
      have p0 := (B0.out.on hbel).cell (j := 0) rfl
      have p1 := (B0.out.on hbel).cell (j := 1) rfl
      have p2 := (B1.out.on hbel).cell (j := 0) rfl
      have p3 := (B1.out.on hbel).cell (j := 1) rfl
      have zb0 := (B0.out.on hbel).lt
      have zb1 := (B1.out.on hbel).lt
      clear hbel
      subst hje
      go_wp2_with fail
      clear p0 p1 p2 p3 zb0 zb1
      obtain ⟨W2, rfl⟩ : ∃ W2 : World, W2 = wr := ⟨_, rfl⟩
      go_loopw [8] (fun i wr => ∃ j : Nat, j ≤ is.length ∧ i = .int .i64 j ∧ Below W.heap.size W wr) (fun i _ => is.length - (intOf i).toNat)
      case atStart => exact ⟨0, Nat.zero_le _, rfl, HBE.out⟩
      clear HBE
      case round =>
        obtain ⟨j, hj, rfl, hbel⟩ := hrel
        have HBE := Lib.hid hbel
        by_cases hlt : j < is.length
        · have hej := List.getElem?_eq_getElem hlt
          have ij : (j : Int) < (is.length : Int) := by omega
          have i0 : (0 : Int) ≤ (j : Int) := by omega
          obtain ⟨b1, o1, x1, A1, c1, hf1, hB1, k1, s1⟩ := row_cells (m := 11) (f := inCs) (fun _ _ => rfl) (by omega) (H2.out.below (HW0.out.trans (hbel.mono HW0.out.size))) hej
          injection hf1 with hf1 _ hf3
          subst hf1 hf3
          obtain ⟨b2, o2, x2, A2, c2, hf2, hB2, k2, s2⟩ := row_cells (m := 11) (f := inCs) (fun _ _ => rfl) (by omega) (H4.out.below (HW0.out.trans (hbel.mono HW0.out.size))) hej
          injection hf2 with hf2 _ hf3
          subst hf2 hf3
          have hws := HW0.out.size
          have hz1 : b1 < wr.heap.size := Nat.lt_of_lt_of_le hB1 (Nat.le_trans hws hbel.size)
          have hz2 : b2 < wr.heap.size := Nat.lt_of_lt_of_le hB2 (Nat.le_trans hws hbel.size)
          have HS1 := Lib.hid (s1.more (Nat.le_trans hws hbel.size))
          have HS2 := Lib.hid (s2.more (Nat.le_trans hws hbel.size))
          have HPL := Lib.hid (HSI.out _ (List.getElem_mem hlt))
          have p0 := (B0.out.on hbel).cell (j := 0) rfl
          have p1 := (B0.out.on hbel).cell (j := 1) rfl
          have p2 := (B1.out.on hbel).cell (j := 0) rfl
          have p3 := (B1.out.on hbel).cell (j := 1) rfl
          have zb0 := (B0.out.on hbel).lt
          have zb1 := (B1.out.on hbel).lt
          generalize is[j] = y at *
          obtain ⟨src, dst, app, zer, iv, last, ps, blk, due, ttl, fin⟩ := y
          dsimp only at HPL
          have d0 : wr.cell? ⟨b1, o1 + j * 11, none⟩ = some (.int .u16 (src : Int)) := k1 0 _ rfl
          have d1 : wr.cell? ⟨b1, o1 + j * 11 + 1, none⟩ = some (.int .u16 (dst : Int)) := k1 1 _ rfl
          have d2 : wr.cell? ⟨b1, o1 + j * 11 + 2, none⟩ = some (.bool app) := k1 2 _ rfl
          have d3 : wr.cell? ⟨b1, o1 + j * 11 + 3, none⟩ = some (.int .u32 (zer : Int)) := k1 3 _ rfl
          have d4 : wr.cell? ⟨b1, o1 + j * 11 + 4, none⟩ = some (.int .u32 (iv : Int)) := k1 4 _ rfl
          have d5 : wr.cell? ⟨b1, o1 + j * 11 + 5, none⟩ = some (.int .i64 last) := k1 5 _ rfl
          have d6 : wr.cell? ⟨b1, o1 + j * 11 + 6, none⟩ = some (.slice A1 ps.length c1) := k1 6 _ rfl
          have d7 : wr.cell? ⟨b1, o1 + j * 11 + 7, none⟩ = some (.int .u32 (blk : Int)) := k1 7 _ rfl
          have d8 : wr.cell? ⟨b1, o1 + j * 11 + 8, none⟩ = some (.int .i64 due) := k1 8 _ rfl
          have d9 : wr.cell? ⟨b1, o1 + j * 11 + 9, none⟩ = some (.int .i64 ttl) := k1 9 _ rfl
          have d10 : wr.cell? ⟨b1, o1 + j * 11 + 10, none⟩ = some (.bool fin) := k1 10 _ rfl
          have e0 : wr.cell? ⟨b2, o2 + j * 11, none⟩ = some (.int .u16 (src : Int)) := k2 0 _ rfl
          have e1 : wr.cell? ⟨b2, o2 + j * 11 + 1, none⟩ = some (.int .u16 (dst : Int)) := k2 1 _ rfl
          have e2 : wr.cell? ⟨b2, o2 + j * 11 + 2, none⟩ = some (.bool app) := k2 2 _ rfl
          have e3 : wr.cell? ⟨b2, o2 + j * 11 + 3, none⟩ = some (.int .u32 (zer : Int)) := k2 3 _ rfl
          have e4 : wr.cell? ⟨b2, o2 + j * 11 + 4, none⟩ = some (.int .u32 (iv : Int)) := k2 4 _ rfl
          have e5 : wr.cell? ⟨b2, o2 + j * 11 + 5, none⟩ = some (.int .i64 last) := k2 5 _ rfl
          have e6 : wr.cell? ⟨b2, o2 + j * 11 + 6, none⟩ = some (.slice A2 ps.length c2) := k2 6 _ rfl
          have e7 : wr.cell? ⟨b2, o2 + j * 11 + 7, none⟩ = some (.int .u32 (blk : Int)) := k2 7 _ rfl
          have e8 : wr.cell? ⟨b2, o2 + j * 11 + 8, none⟩ = some (.int .i64 due) := k2 8 _ rfl
          have e9 : wr.cell? ⟨b2, o2 + j * 11 + 9, none⟩ = some (.int .i64 ttl) := k2 9 _ rfl
          have e10 : wr.cell? ⟨b2, o2 + j * 11 + 10, none⟩ = some (.bool fin) := k2 10 _ rfl
          clear k1 k2 s1 s2 hej hbel hws
          obtain ⟨wo, rfl⟩ : ∃ wo : World, wo = wr := ⟨_, rfl⟩
          go_upto_region 12 with fail
          go_cut [9, 10] (fun t6 t7 wx => ∃ m1 m2 : Nat, t6 = .pointer (some ⟨m1, 0, none⟩) ∧ t7 = .pointer (some ⟨m2, 0, none⟩) ∧ Box wx m1 [.int .u16 (src : Int), .int .u16 (dst : Int), .bool app, .int .u32 (zer : Int), .int .u32 (iv : Int), .int .i64 last, .slice A1 ps.length c1, .int .u32 (blk : Int), .int .i64 due, .int .i64 ttl, .bool fin] ∧ Box wx m2 [.int .u16 (src : Int), .int .u16 (dst : Int), .bool app, .int .u32 (zer : Int), .int .u32 (iv : Int), .int .i64 last, .slice A2 ps.length c2, .int .u32 (blk : Int), .int .i64 due, .int .i64 ttl, .bool fin] ∧ Below wo.heap.size wo wx)
          case first =>
            go_region_held3 (fun w' => w'.cell? ⟨w.heap.size, 0, none⟩ = some (.slice Ao os.length co) ∧ w'.cell? ⟨w.heap.size, 1, none⟩ = some (.slice (some ⟨b1, o1, none⟩) is.length ci) ∧ w'.cell? ⟨w.heap.size + 1, 0, none⟩ = some (.slice Ao' os.length co') ∧ w'.cell? ⟨w.heap.size + 1, 1, none⟩ = some (.slice (some ⟨b2, o2, none⟩) is.length ci') ∧ w'.cell? ⟨b1, o1 + j * 11, none⟩ = some (.int .u16 (src : Int)) ∧ w'.cell? ⟨b1, o1 + j * 11 + 1, none⟩ = some (.int .u16 (dst : Int)) ∧ w'.cell? ⟨b1, o1 + j * 11 + 2, none⟩ = some (.bool app) ∧ w'.cell? ⟨b1, o1 + j * 11 + 3, none⟩ = some (.int .u32 (zer : Int)) ∧ w'.cell? ⟨b1, o1 + j * 11 + 4, none⟩ = some (.int .u32 (iv : Int)) ∧ w'.cell? ⟨b1, o1 + j * 11 + 5, none⟩ = some (.int .i64 last) ∧ w'.cell? ⟨b1, o1 + j * 11 + 6, none⟩ = some (.slice A1 ps.length c1) ∧ w'.cell? ⟨b1, o1 + j * 11 + 7, none⟩ = some (.int .u32 (blk : Int)) ∧ w'.cell? ⟨b1, o1 + j * 11 + 8, none⟩ = some (.int .i64 due) ∧ w'.cell? ⟨b1, o1 + j * 11 + 9, none⟩ = some (.int .i64 ttl) ∧ w'.cell? ⟨b1, o1 + j * 11 + 10, none⟩ = some (.bool fin) ∧ w'.cell? ⟨b2, o2 + j * 11, none⟩ = some (.int .u16 (src : Int)) ∧ w'.cell? ⟨b2, o2 + j * 11 + 1, none⟩ = some (.int .u16 (dst : Int)) ∧ w'.cell? ⟨b2, o2 + j * 11 + 2, none⟩ = some (.bool app) ∧ w'.cell? ⟨b2, o2 + j * 11 + 3, none⟩ = some (.int .u32 (zer : Int)) ∧ w'.cell? ⟨b2, o2 + j * 11 + 4, none⟩ = some (.int .u32 (iv : Int)) ∧ w'.cell? ⟨b2, o2 + j * 11 + 5, none⟩ = some (.int .i64 last) ∧ w'.cell? ⟨b2, o2 + j * 11 + 6, none⟩ = some (.slice A2 ps.length c2) ∧ w'.cell? ⟨b2, o2 + j * 11 + 7, none⟩ = some (.int .u32 (blk : Int)) ∧ w'.cell? ⟨b2, o2 + j * 11 + 8, none⟩ = some (.int .i64 due) ∧ w'.cell? ⟨b2, o2 + j * 11 + 9, none⟩ = some (.int .i64 ttl) ∧ w'.cell? ⟨b2, o2 + j * 11 + 10, none⟩ = some (.bool fin)) (go_keep) (fail)
            all_goals
              clear p0 p1 p2 p3 d0 e0 d1 e1 d2 e2 d3 e3 d4 e4 d5 e5 d6 e6 d7 e7 d8 e8 d9 e9 d10 e10
              go_wp2_with fail
              go_meet
            all_goals
              first
                | exact ⟨wo.heap.size, wo.heap.size + 1, rfl, rfl, ((Box.new wo _ _).alloc _).drew, ⟨95, by rw [heap_dr, heap_al, if_pos (by simp)]⟩, below_drewN (al2 _ _ _) 1⟩
                | exact ⟨wo.heap.size + 1, wo.heap.size, rfl, rfl, ⟨95, by rw [heap_dr, heap_al, if_pos (by simp)]⟩, ((Box.new wo _ _).alloc _).drew, below_drewN (al2 _ _ _) 1⟩
                | fail
          case rest =>
            obtain ⟨m1, m2, rfl, rfl, hx1, hx2, hbx⟩ := hcut
            have HX := Lib.hid (bthen HBE.out hbx)
            have CS := Lib.hid (sameparts_any _ _ ps wc (HS1.out.on hbx) (HS2.out.on hbx) HPL.out)
            have r10 := hx1.cell (j := 0) rfl
            have r20 := hx2.cell (j := 0) rfl
            have r11 := hx1.cell (j := 1) rfl
            have r21 := hx2.cell (j := 1) rfl
            have r12 := hx1.cell (j := 2) rfl
            have r22 := hx2.cell (j := 2) rfl
            have r13 := hx1.cell (j := 3) rfl
            have r23 := hx2.cell (j := 3) rfl
            have r14 := hx1.cell (j := 4) rfl
            have r24 := hx2.cell (j := 4) rfl
            have r15 := hx1.cell (j := 5) rfl
            have r25 := hx2.cell (j := 5) rfl
            have r16 := hx1.cell (j := 6) rfl
            have r26 := hx2.cell (j := 6) rfl
            have r17 := hx1.cell (j := 7) rfl
            have r27 := hx2.cell (j := 7) rfl
            have r18 := hx1.cell (j := 8) rfl
            have r28 := hx2.cell (j := 8) rfl
            have r19 := hx1.cell (j := 9) rfl
            have r29 := hx2.cell (j := 9) rfl
            have r110 := hx1.cell (j := 10) rfl
            have r210 := hx2.cell (j := 10) rfl
            (try dsimp only at r10 r20 r11 r21 r12 r22 r13 r23 r14 r24 r15 r25 r16 r26 r17 r27 r18 r28 r19 r29 r110 r210)
            have y1 := hx1.lt
            have y2 := hx2.lt
            clear hx1 hx2 hbx p0 p1 p2 p3 d0 e0 d1 e1 d2 e2 d3 e3 d4 e4 d5 e5 d6 e6 d7 e7 d8 e8 d9 e9 d10 e10
            go_wp2_with fail
            refine CS.out.mono ?_
            rintro e w5 ⟨rfl, hb5⟩
            have HX5 := Lib.hid (bthen HX.out hb5)
            clear hb5 r10 r20 r11 r21 r12 r22 r13 r23 r14 r24 r15 r25 r16 r26 r17 r27 r18 r28 r19 r29 r110 r210
            go_wp2_with fail
            go_roundw
            case rel => exact ⟨j + 1, by omega, by go_num, HX5.out⟩
            case measure => simp [intOf]; omega
        · have hje : j = is.length := by omega
          have p0 := (B0.out.on hbel).cell (j := 0) rfl
          have p1 := (B0.out.on hbel).cell (j := 1) rfl
          have p2 := (B1.out.on hbel).cell (j := 0) rfl
          have p3 := (B1.out.on hbel).cell (j := 1) rfl
          have zb0 := (B0.out.on hbel).lt
          have zb1 := (B1.out.on hbel).lt
          clear hbel
          subst hje
          go_wp2_with fail
          go_ret
          exact ⟨rfl, HW0.out.trans (HBE.out.mono HW0.out.size)⟩

structure OpS where
  kind : Int
  acc : AccS
  ab : List UInt8
  src : Nat
  dst : Nat
  isrc : Nat
  iv : Nat
  seq : Nat
  ttl : Int
  now : Int
  low : Low
  lb : List UInt8
abbrev opCs (o : OpS) (v : Value × Value) : List Value := [.int .i64 o.kind, .int .u16 (o.acc.src : Int), .int .u16 (o.acc.dst : Int), .bool o.acc.app, .int .i64 o.acc.ttl, .int .u16 (o.acc.ssrc : Int), .int .u32 (o.acc.iv : Int), .int .u32 (o.acc.seq : Int), v.1, .int .u16 (o.src : Int), .int .u16 (o.dst : Int), .int .u16 (o.isrc : Int), .int .u32 (o.iv : Int), .int .u32 (o.seq : Int), .int .i64 o.ttl, .int .i64 o.now, .bool o.low.ctl, .bool o.low.seg, .bool o.low.app, .int .i64 o.low.zero, .int .i64 o.low.idx, .int .i64 o.low.last, .int .i64 o.low.op, .int .u32 (o.low.blk : Int), .bool o.low.fr, v.2]
theorem opCs_len (o : OpS) (v : Value × Value) : (opCs o v).length = 26 := rfl
/-- The numbers fit. -/
def OpW (o : OpS) : Prop := o.acc.seq < 4294967296 ∧ o.seq < 4294967296 ∧ o.low.blk < 4294967296
def OpsV (w : World) (B : Nat) (v : Value) (os : List OpS) : Prop :=
  ∃ vs : List (Value × Value), vs.length = os.length ∧ Sl w B 26 v os.length (flat2 opCs os vs) ∧ ∀ (k : Nat) o u, os[k]? = some o → vs[k]? = some u → BS w B u.1 o.ab ∧ BS w B u.2 o.lb ∧ OpW o
theorem OpsV.below {w w' : World} {B : Nat} {v : Value} {os : List OpS} (h : OpsV w B v os) (hb : Below B w w') : OpsV w' B v os := by
  obtain ⟨vs, h1, h2, h3⟩ := h
  exact ⟨vs, h1, h2.below hb, fun k o u ho hu => ⟨(h3 k o u ho hu).1.below hb, (h3 k o u ho hu).2.1.below hb, (h3 k o u ho hu).2.2⟩⟩
theorem OpsV.form {w : World} {B : Nat} {v : Value} {os : List OpS} (h : OpsV w B v os) : ∃ A c, v = .slice A os.length c := by
  obtain ⟨_, _, ⟨A, c, h, _⟩, _⟩ := h
  exact ⟨A, c, h⟩
/-- The cells of a call in a list. -/
theorem op_cells {w : World} {B : Nat} {v : Value} {ms : List OpS} (h : OpsV w B v ms) {i : Nat} {a : OpS} (hi : ms[i]? = some a) : ∃ (b o c : Nat) (A1 A2 : Option Addr) (c1 c2 : Nat), v = .slice (some ⟨b, o, none⟩) ms.length c ∧ b < B ∧ (∀ (j : Nat) (y : Value), (opCs a (.slice A1 a.ab.length c1, .slice A2 a.lb.length c2))[j]? = some y → w.cell? ⟨b, o + i * 26 + j, none⟩ = some y) ∧ BS w B (.slice A1 a.ab.length c1) a.ab ∧ BS w B (.slice A2 a.lb.length c2) a.lb ∧ OpW a := by
  obtain ⟨vs, h1, h2, h3⟩ := h
  have hiv : i < vs.length := by have := (List.getElem?_eq_some_iff.1 hi).1; omega
  have hv := List.getElem?_eq_getElem hiv
  obtain ⟨hp, hq, hw⟩ := h3 i a vs[i] hi hv
  generalize vs[i] = u at *
  obtain ⟨u1, u2⟩ := u
  obtain ⟨A1, c1, hf1, _⟩ := id hp
  obtain ⟨A2, c2, hf2, _⟩ := id hq
  dsimp only at hf1 hf2
  subst hf1 hf2
  have c0 := flat2_at opCs_len ms vs i a _ 0 h1 hi hv (by omega)
  obtain ⟨A, c, rfl, _⟩ := id h2
  obtain ⟨b, o, rfl, hB, hc⟩ := h2.cells c0
  refine ⟨b, o, c, A1, A2, c1, c2, rfl, hB, fun j y hy => ?_, hp, hq, hw⟩
  have hj : j < 26 := (List.getElem?_eq_some_iff.1 hy).1
  have cj := flat2_at opCs_len ms vs i a _ j h1 hi hv hj
  rw [Nat.add_assoc]
  exact hc _ _ (cj.trans hy)
end Go.Proofs.Ytkpjinkkjbljkaa
