/- Walks of the laws of transport: sameAccess, of equal lists. No condition but the sizes. -/
import Derived.Test.YtkpjinkkjbljkaaTq5
import Derived.Deep.RegionHeld3
import Derived.Deep.DeepCutAuto
namespace Go.Proofs.Ytkpjinkkjbljkaa
open Go.RowKit

/-- The cells of a message in a list. -/
theorem acc_cells {w : World} {B : Nat} {v : Value} {ms : List Msg} (h : AccsV w B v ms) {i : Nat} {a : Msg} (hi : ms[i]? = some a) : ∃ (b o c : Nat) (A' : Option Addr) (c' : Nat), v = .slice (some ⟨b, o, none⟩) ms.length c ∧ b < B ∧ (∀ (j : Nat) (y : Value), (accF a (.slice A' a.2.length c'))[j]? = some y → w.cell? ⟨b, o + i * 8 + j, none⟩ = some y) ∧ BS w B (.slice A' a.2.length c') a.2 := by
  obtain ⟨vs, h1, h2, h3⟩ := h
  have hiv : i < vs.length := by have := (List.getElem?_eq_some_iff.1 hi).1; omega
  have hv := List.getElem?_eq_getElem hiv
  have hp := h3 i a vs[i] hi hv
  obtain ⟨A', c', hf, _⟩ := id hp
  rw [hf] at hp hv
  have c0 := flat2_at accF_len ms vs i a _ 0 h1 hi hv (by omega)
  obtain ⟨A, c, rfl, _⟩ := id h2
  obtain ⟨b, o, rfl, hB, hc⟩ := h2.cells c0
  refine ⟨b, o, c, A', c', rfl, hB, fun j y hy => ?_, hp⟩
  have hj : j < 8 := (List.getElem?_eq_some_iff.1 hy).1
  have cj := flat2_at accF_len ms vs i a _ j h1 hi hv hj
  rw [Nat.add_assoc]
  exact hc _ _ (cj.trans hy)

set_option maxRecDepth 100000 in
set_option maxHeartbeats 4000000 in
theorem sameacc_any (a b : Value) (ms : List Msg) (w : World) (ha : AccsV w w.heap.size a ms) (hb : AccsV w w.heap.size b ms) (hle : ms.length ≤ 65536) :
    Calls Try.prog 24 #[a, b] w fun e w' => e = .returned (.bool true) ∧ Below w.heap.size w w' := by
  obtain ⟨A, c, rfl⟩ := ha.form
  obtain ⟨A', c', rfl⟩ := hb.form
  have HA := Lib.hid ha
  have HB := Lib.hid hb
  have HLE := Lib.hid hle
  clear ha hb
  go_enter Try.func24, Try.ntmps24
  go_wp2_with fail
  go_loopw [5] (fun i wr => ∃ j : Nat, j ≤ ms.length ∧ i = .int .i64 j ∧ Below w.heap.size w wr) (fun i _ => ms.length - (intOf i).toNat)
  case atStart => exact ⟨0, Nat.zero_le _, rfl, Below.refl _ _⟩
  case round =>
    obtain ⟨j, hj, rfl, hbel⟩ := hrel
    have HBE := Lib.hid hbel
    by_cases hlt : j < ms.length
    · have hej := List.getElem?_eq_getElem hlt
      obtain ⟨b1, o1, x1, A1, c1, hf1, hB1, k1, s1⟩ := acc_cells (HA.out.below hbel) hej
      injection hf1 with hf1 _ hf3
      subst hf1 hf3
      obtain ⟨b2, o2, x2, A2, c2, hf2, hB2, k2, s2⟩ := acc_cells (HB.out.below hbel) hej
      injection hf2 with hf2 _ hf3
      subst hf2 hf3
      have HS1 := Lib.hid (s1.more hbel.size)
      have HS2 := Lib.hid (s2.more hbel.size)
      have hz1 : b1 < wr.heap.size := Nat.lt_of_lt_of_le hB1 hbel.size
      have hz2 : b2 < wr.heap.size := Nat.lt_of_lt_of_le hB2 hbel.size
      generalize ms[j] = y at *
      obtain ⟨⟨src, dst, app, ttl, ssrc, iv, seq⟩, bl⟩ := y
      have d0 : wr.cell? ⟨b1, o1 + j * 8, none⟩ = some (.int .u16 (src : Int)) := k1 0 _ rfl
      have d1 : wr.cell? ⟨b1, o1 + j * 8 + 1, none⟩ = some (.int .u16 (dst : Int)) := k1 1 _ rfl
      have d2 : wr.cell? ⟨b1, o1 + j * 8 + 2, none⟩ = some (.bool app) := k1 2 _ rfl
      have d3 : wr.cell? ⟨b1, o1 + j * 8 + 3, none⟩ = some (.int .i64 ttl) := k1 3 _ rfl
      have d4 : wr.cell? ⟨b1, o1 + j * 8 + 4, none⟩ = some (.int .u16 (ssrc : Int)) := k1 4 _ rfl
      have d5 : wr.cell? ⟨b1, o1 + j * 8 + 5, none⟩ = some (.int .u32 (iv : Int)) := k1 5 _ rfl
      have d6 : wr.cell? ⟨b1, o1 + j * 8 + 6, none⟩ = some (.int .u32 (seq : Int)) := k1 6 _ rfl
      have d7 : wr.cell? ⟨b1, o1 + j * 8 + 7, none⟩ = some (.slice A1 bl.length c1) := k1 7 _ rfl
      have e0 : wr.cell? ⟨b2, o2 + j * 8, none⟩ = some (.int .u16 (src : Int)) := k2 0 _ rfl
      have e1 : wr.cell? ⟨b2, o2 + j * 8 + 1, none⟩ = some (.int .u16 (dst : Int)) := k2 1 _ rfl
      have e2 : wr.cell? ⟨b2, o2 + j * 8 + 2, none⟩ = some (.bool app) := k2 2 _ rfl
      have e3 : wr.cell? ⟨b2, o2 + j * 8 + 3, none⟩ = some (.int .i64 ttl) := k2 3 _ rfl
      have e4 : wr.cell? ⟨b2, o2 + j * 8 + 4, none⟩ = some (.int .u16 (ssrc : Int)) := k2 4 _ rfl
      have e5 : wr.cell? ⟨b2, o2 + j * 8 + 5, none⟩ = some (.int .u32 (iv : Int)) := k2 5 _ rfl
      have e6 : wr.cell? ⟨b2, o2 + j * 8 + 6, none⟩ = some (.int .u32 (seq : Int)) := k2 6 _ rfl
      have e7 : wr.cell? ⟨b2, o2 + j * 8 + 7, none⟩ = some (.slice A2 bl.length c2) := k2 7 _ rfl
      clear k1 k2 s1 s2 hej hbel
      obtain ⟨wo, rfl⟩ : ∃ wo : World, wo = wr := ⟨_, rfl⟩
      go_upto_region 6 with fail
      go_cut [6, 7] (fun t6 t7 wx => ∃ m1 m2 : Nat, t6 = .pointer (some ⟨m1, 0, none⟩) ∧ t7 = .pointer (some ⟨m2, 0, none⟩) ∧ Box wx m1 (accCs ⟨src, dst, app, ttl, ssrc, iv, seq⟩ (.slice A1 bl.length c1)) ∧ Box wx m2 (accCs ⟨src, dst, app, ttl, ssrc, iv, seq⟩ (.slice A2 bl.length c2)) ∧ Below wo.heap.size wo wx)
      case first =>
        have ij : (j : Int) < (ms.length : Int) := by omega
        have i0 : (0 : Int) ≤ (j : Int) := by omega
        go_region_held3 (fun w' => w'.cell? ⟨b1, o1 + j * 8, none⟩ = some (.int .u16 (src : Int)) ∧ w'.cell? ⟨b1, o1 + j * 8 + 1, none⟩ = some (.int .u16 (dst : Int)) ∧ w'.cell? ⟨b1, o1 + j * 8 + 2, none⟩ = some (.bool app) ∧ w'.cell? ⟨b1, o1 + j * 8 + 3, none⟩ = some (.int .i64 ttl) ∧ w'.cell? ⟨b1, o1 + j * 8 + 4, none⟩ = some (.int .u16 (ssrc : Int)) ∧ w'.cell? ⟨b1, o1 + j * 8 + 5, none⟩ = some (.int .u32 (iv : Int)) ∧ w'.cell? ⟨b1, o1 + j * 8 + 6, none⟩ = some (.int .u32 (seq : Int)) ∧ w'.cell? ⟨b1, o1 + j * 8 + 7, none⟩ = some (.slice A1 bl.length c1) ∧ w'.cell? ⟨b2, o2 + j * 8, none⟩ = some (.int .u16 (src : Int)) ∧ w'.cell? ⟨b2, o2 + j * 8 + 1, none⟩ = some (.int .u16 (dst : Int)) ∧ w'.cell? ⟨b2, o2 + j * 8 + 2, none⟩ = some (.bool app) ∧ w'.cell? ⟨b2, o2 + j * 8 + 3, none⟩ = some (.int .i64 ttl) ∧ w'.cell? ⟨b2, o2 + j * 8 + 4, none⟩ = some (.int .u16 (ssrc : Int)) ∧ w'.cell? ⟨b2, o2 + j * 8 + 5, none⟩ = some (.int .u32 (iv : Int)) ∧ w'.cell? ⟨b2, o2 + j * 8 + 6, none⟩ = some (.int .u32 (seq : Int)) ∧ w'.cell? ⟨b2, o2 + j * 8 + 7, none⟩ = some (.slice A2 bl.length c2)) (go_keep) (fail)
        all_goals
          clear d0 e0 d1 e1 d2 e2 d3 e3 d4 e4 d5 e5 d6 e6 d7 e7
          go_wp2_with fail
          go_meet
        all_goals
          first
            | exact ⟨wo.heap.size, wo.heap.size + 1, rfl, rfl, ((Box.new wo _ _).alloc _).drew, ⟨43, by rw [heap_dr, heap_al, if_pos (by simp)]⟩, below_drewN (al2 _ _ _) 1⟩
            | exact ⟨wo.heap.size + 1, wo.heap.size, rfl, rfl, ⟨43, by rw [heap_dr, heap_al, if_pos (by simp)]⟩, ((Box.new wo _ _).alloc _).drew, below_drewN (al2 _ _ _) 1⟩
            | fail
      case rest =>
        obtain ⟨m1, m2, rfl, rfl, hx1, hx2, hbx⟩ := hcut
        have HX := Lib.hid hbx
        have CS := Lib.hid (show Calls Try.prog 18 #[.slice A1 bl.length c1, .slice A2 bl.length c2] wc fun e w' => e = .returned (.bool true) ∧ wc = w' by
          have h := same_any _ _ bl bl wc (HS1.out.on hbx) (HS2.out.on hbx)
          rwa [decide_eq_true rfl] at h)
        have p10 := hx1.cell (j := 0) rfl
        (try dsimp only at p10)
        have p11 := hx1.cell (j := 1) rfl
        (try dsimp only at p11)
        have p12 := hx1.cell (j := 2) rfl
        (try dsimp only at p12)
        have p13 := hx1.cell (j := 3) rfl
        (try dsimp only at p13)
        have p14 := hx1.cell (j := 4) rfl
        (try dsimp only at p14)
        have p15 := hx1.cell (j := 5) rfl
        (try dsimp only at p15)
        have p16 := hx1.cell (j := 6) rfl
        (try dsimp only at p16)
        have p17 := hx1.cell (j := 7) rfl
        (try dsimp only at p17)
        have p20 := hx2.cell (j := 0) rfl
        (try dsimp only at p20)
        have p21 := hx2.cell (j := 1) rfl
        (try dsimp only at p21)
        have p22 := hx2.cell (j := 2) rfl
        (try dsimp only at p22)
        have p23 := hx2.cell (j := 3) rfl
        (try dsimp only at p23)
        have p24 := hx2.cell (j := 4) rfl
        (try dsimp only at p24)
        have p25 := hx2.cell (j := 5) rfl
        (try dsimp only at p25)
        have p26 := hx2.cell (j := 6) rfl
        (try dsimp only at p26)
        have p27 := hx2.cell (j := 7) rfl
        (try dsimp only at p27)
        have y1 := hx1.lt
        have y2 := hx2.lt
        clear hx1 hx2 hbx d0 e0 d1 e1 d2 e2 d3 e3 d4 e4 d5 e5 d6 e6 d7 e7
        go_wp2_with fail
        refine CS.out.mono ?_
        rintro e w5 ⟨rfl, rfl⟩
        go_wp2_with fail
        go_roundw
        case rel => exact ⟨j + 1, by omega, by go_num, bthen HBE.out HX.out⟩
        case measure => simp [intOf]; omega
    · have hje : j = ms.length := by omega
      subst hje
      go_wp2_with fail
      go_ret
      exact ⟨rfl, HBE.out⟩
end Go.Proofs.Ytkpjinkkjbljkaa
