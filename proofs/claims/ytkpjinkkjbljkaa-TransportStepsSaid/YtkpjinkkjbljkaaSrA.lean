/- The reference: Full, has, to, find, segment, without, move. -/
import Derived.Test.YtkpjinkkjbljkaaTq5
import Derived.Test.YtkpjinkkjbljkaaTqP
import Derived.Deep.RegionHeld3
import Derived.Test.YtkpjinkkjbljkaaTs5
import Derived.Test.YtkpjinkkjbljkaaTaS
namespace Go.Proofs.Ytkpjinkkjbljkaa
open Go.RowKit

theorem out_cells {w : World} {B : Nat} {v : Value} {is : List OutS} (h : RowV outCs 10 OutS.parts w B v is) {i : Nat} {x : OutS} (hi : is[i]? = some x) : ∃ (b o c : Nat) (u : Value), v = .slice (some ⟨b, o, none⟩) is.length c ∧ b < B ∧ (∀ (j : Nat) (y : Value), (outCs x u)[j]? = some y → w.cell? ⟨b, o + i * 10 + j, none⟩ = some y) ∧ PartsV w B u x.parts := by
  obtain ⟨vs, h1, h2, h3⟩ := h
  have hiv : i < vs.length := by have := (List.getElem?_eq_some_iff.1 hi).1; omega
  have hv := List.getElem?_eq_getElem hiv
  have hp := h3 i x vs[i] hi hv
  have c0 := flat2_at outCs_len is vs i x vs[i] 0 h1 hi hv (by omega)
  obtain ⟨A, c, rfl, _⟩ := id h2
  obtain ⟨b, o, rfl, hB, hc⟩ := h2.cells c0
  refine ⟨b, o, c, vs[i], rfl, hB, fun j y hy => ?_, hp⟩
  have hj : j < 10 := (List.getElem?_eq_some_iff.1 hy).1
  have cj := flat2_at outCs_len is vs i x vs[i] j h1 hi hv hj
  rw [Nat.add_assoc]
  exact hc _ _ (cj.trans hy)

set_option maxRecDepth 100000 in
set_option maxHeartbeats 2000000 in
theorem rfull_any (n : Nat) (hn : n ≤ 32) (w : World) : Calls Try.prog 68 #[.int .i64 (n : Int)] w fun e w' => e = .returned (.int .u32 ((full n : Nat) : Int)) ∧ w = w' := by
  have HN := Lib.hid hn
  go_enter Try.func68, Try.ntmps68
  go_wp2_with fail
  go_loopw [4, 3] (fun i x wr => ∃ j p : Nat, j ≤ n ∧ p = 2 ^ j ∧ i = .int .i64 j ∧ x = .int .u64 (p : Int) ∧ w = wr) (fun i _ _ => n - (intOf i).toNat)
  case atStart => exact ⟨0, 1, Nat.zero_le _, rfl, rfl, rfl, rfl⟩
  case round =>
    obtain ⟨j, p, hj, hp, rfl, rfl, rfl⟩ := hrel
    have hp2 : p ≤ 4294967296 := by
      have h1 : 2 ^ j ≤ 2 ^ 32 := Nat.pow_le_pow_right (by omega) (by have := HN.out; omega)
      have h2 : 2 ^ 32 = 4294967296 := by decide
      omega
    have hp1 : 1 ≤ p := by rw [hp]; exact Nat.one_le_two_pow
    have HP := Lib.hid hp
    by_cases hlt : j < n
    · have e1 : IntKind.u64.wrap ((p : Int) * 2) = ((2 * p : Nat) : Int) := by rw [IntWalk.u64_in _ (by omega)]; push_cast; omega
      obtain ⟨q, hq⟩ : ∃ q, q = 2 * p := ⟨_, rfl⟩
      rw [← hq] at e1
      have HQ := Lib.hid (show q = 2 ^ (j + 1) by rw [hq, hp, Nat.pow_succ]; omega)
      clear hp hq hp1 hp2
      go_wp2_with fail
      go_roundw
      case rel => exact ⟨j + 1, q, by omega, HQ.out, by go_num, rfl, by trivial⟩
      case measure => simp [intOf]; omega
    · have hje : j = n := by omega
      subst hje
      have e1 : IntKind.u64.wrap ((p : Int) - 1) = (p : Int) - 1 := IntWalk.u64_in _ (by omega)
      have e2 : IntKind.u32.wrap ((p : Int) - 1) = (p : Int) - 1 := IntWalk.u32_in _ (by omega)
      have HE := Lib.hid (show (p : Int) - 1 = ((full j : Nat) : Int) by unfold full; rw [← hp]; omega)
      clear hp hp1 hp2
      go_wp2_with fail
      go_ret
      exact ⟨by rw [HE.out]; rfl, rfl⟩
theorem full_succ (i : Nat) : full (i + 1) = full i + 2 ^ i := by
  unfold full
  have := Nat.one_le_two_pow (n := i)
  rw [Nat.pow_succ]
  omega
theorem full_le {i : Nat} (h : i ≤ 32) : full i < 4294967296 := by
  have h1 : 2 ^ i ≤ 2 ^ 32 := Nat.pow_le_pow_right (by omega) h
  have h2 : 2 ^ 32 = 4294967296 := by decide
  have h3 := Nat.one_le_two_pow (n := i)
  unfold full
  omega
theorem and_bit (b i : Nat) : (b &&& 2 ^ i ≠ 0) ↔ b / 2 ^ i % 2 = 1 := by
  have e : b.testBit i = decide (b / 2 ^ i % 2 = 1) := Nat.testBit_eq_decide_div_mod_eq
  constructor
  · intro h
    apply Classical.byContradiction
    intro hc
    rw [decide_eq_false hc] at e
    apply h
    apply Nat.eq_of_testBit_eq
    intro k
    rw [Nat.testBit_and, Nat.testBit_two_pow, Nat.zero_testBit]
    by_cases hk : i = k
    · subst hk
      rw [e]
      rfl
    · simp [hk]
  · intro h hz
    rw [decide_eq_true h] at e
    have h1 : (b &&& 2 ^ i).testBit i = true := by
      rw [Nat.testBit_and, e, Nat.testBit_two_pow]
      simp
    rw [hz, Nat.zero_testBit] at h1
    cases h1
/-- Is a bit set? -/
def hasB (b i : Nat) : Bool := decide (b / 2 ^ i % 2 = 1)
set_option maxRecDepth 100000 in
set_option maxHeartbeats 2000000 in
theorem rhas_any (b i : Nat) (hb : b < 4294967296) (hi : i ≤ 31) (w : World) : Calls Try.prog 67 #[.int .u32 (b : Int), .int .i64 (i : Int)] w fun e w' => e = .returned (.bool (hasB b i)) ∧ w = w' := by
  have C1 := Lib.hid (fun W => rfull_any (i + 1) (by omega) W)
  have C0 := Lib.hid (fun W => rfull_any i (by omega) W)
  have hw : IntKind.i64.wrap ((i : Int) + 1) = ((i + 1 : Nat) : Int) := by rw [IntWalk.i64_in _ (by omega)]; push_cast; rfl
  have hs : ((full (i + 1) : Nat) : Int) - ((full i : Nat) : Int) = ((2 ^ i : Nat) : Int) := by
    have h := full_succ i
    generalize full (i + 1) = x at *
    generalize full i = y at *
    generalize 2 ^ i = z at *
    omega
  have h2 : 2 ^ i < 4294967296 := by
    have h1 : 2 ^ i ≤ 2 ^ 31 := Nat.pow_le_pow_right (by omega) hi
    have h2 : 2 ^ 31 = 2147483648 := by decide
    omega
  have hwr : IntKind.u32.wrap (((full (i + 1) : Nat) : Int) - ((full i : Nat) : Int)) = ((2 ^ i : Nat) : Int) := by
    rw [hs]
    generalize 2 ^ i = z at *
    exact IntWalk.u32_in _ (by omega)
  have hand := u32_and_nat b (2 ^ i) hb h2
  have hne : ((((b &&& 2 ^ i : Nat) : Int)) != 0) = hasB b i := by
    have h := and_bit b i
    unfold hasB
    rw [Bool.eq_iff_iff, decide_eq_true_iff, ← h, bne_iff_ne]
    omega
  generalize hasB b i = r at *
  generalize full (i + 1) = f1 at *
  generalize full i = f0 at *
  generalize 2 ^ i = p at *
  generalize (b &&& p) = m at *
  generalize i + 1 = i1 at *
  clear hb hi hs h2
  go_enter Try.func67, Try.ntmps67
  go_wp2_with fail
  refine (C1.out _).mono ?_
  rintro e w1 ⟨rfl, rfl⟩
  go_wp2_with fail
  refine (C0.out _).mono ?_
  rintro e w1 ⟨rfl, rfl⟩
  go_wp2_with fail
  go_ret
  exact ⟨by first | rfl | rw [hne], rfl⟩
set_option maxRecDepth 100000 in
set_option maxHeartbeats 2000000 in
theorem rto_any (os : List OutS) (d : Nat) (v : Value) (w : World) (hv : RowV outCs 10 OutS.parts w w.heap.size v os) (hle : os.length ≤ 65536) : Calls Try.prog 63 #[v, .int .u16 (d : Int)] w fun e w' => e = .returned (.bool (os.any fun o => o.dst == d)) ∧ Below w.heap.size w w' := by
  obtain ⟨A1, c1, rfl⟩ := rowV_form hv
  have HV := Lib.hid hv
  have HLE := Lib.hid hle
  have HR := Lib.hid (show (os.any fun o => o.dst == d) = (os.any fun o => o.dst == d) from rfl)
  obtain ⟨R, hR⟩ : ∃ R, R = (os.any fun o => o.dst == d) := ⟨_, rfl⟩
  rw [← hR]
  have HRR := Lib.hid hR
  clear hv hle hR HR
  go_enter Try.func63, Try.ntmps63
  go_wp2_with fail
  go_loopw [5] (fun i wr => ∃ k : Nat, k ≤ os.length ∧ i = .int .i64 k ∧ (os.take k).any (fun o => o.dst == d) = false ∧ Below w.heap.size w wr) (fun i _ => os.length - (intOf i).toNat)
  case atStart => exact ⟨0, Nat.zero_le _, rfl, rfl, Below.refl _ _⟩
  case round =>
    obtain ⟨k, hk, rfl, hany, hbel⟩ := hrel
    have HY := Lib.hid hany
    have HBE := Lib.hid hbel
    have hle := HLE.out
    by_cases hlt : k < os.length
    · have hek := List.getElem?_eq_getElem hlt
      obtain ⟨b1, o1, cc, u1, hform, hB, hcell, hpv⟩ := out_cells (HV.out.below hbel) hek
      injection hform with hf1 _ hf3
      subst hf1 hf3
      have hbz : b1 < wr.heap.size := Nat.lt_of_lt_of_le hB hbel.size
      have HAT := Lib.hid (any_at (d := d) hek)
      have HTK := Lib.hid (any_take (d := d) hany hek)
      generalize os[k] = x at *
      obtain ⟨xd, xs, xa, xz, xi, xp, xk, xdu, xt, xl⟩ := x
      have d0 : wr.cell? ⟨b1, o1 + k * 10, none⟩ = some (.int .u16 (xd : Int)) := hcell 0 _ rfl
      clear hany hbel hcell hpv hek
      by_cases e1 : xd = d
      · subst e1
        have HT := Lib.hid (HAT.out (by simp))
        clear HAT HTK
        go_wp2_with fail
        go_ret
        exact ⟨by rw [HRR.out, HT.out]; rfl, HBE.out⟩
      · have hne : ((xd : Int) == (d : Int)) = false := by simp; omega
        have HT := Lib.hid (HTK.out (by simpa using e1))
        clear HAT HTK e1
        go_wp2_with fail
        go_roundw
        case rel => exact ⟨k + 1, by omega, by go_num, HT.out, HBE.out⟩
        case measure => simp [intOf]; omega
    · have hke : k = os.length := by omega
      subst hke
      rw [List.take_length] at hany
      have HT := Lib.hid hany
      clear hany hbel HY
      go_wp2_with fail
      go_ret
      exact ⟨by rw [HRR.out, HT.out]; rfl, HBE.out⟩

def findN (is : List InS) (src dst ze iv : Nat) : Int := match is.findIdx? (sameIn src dst iv ze) with | none => -1 | some i => (i : Int)
set_option maxRecDepth 100000 in
set_option maxHeartbeats 4000000 in
theorem rfind_any (is : List InS) (src dst ze iv : Nat) (v : Value) (w : World) (hv : RowV inCs 11 InS.parts w w.heap.size v is) (hle : is.length ≤ 65536) :
    Calls Try.prog 66 #[v, .int .u16 (src : Int), .int .u16 (dst : Int), .int .u32 (ze : Int), .int .u32 (iv : Int)] w fun e w' => e = .returned (.int .i64 (findN is src dst ze iv)) ∧ Below w.heap.size w w' := by
  obtain ⟨A1, c1, rfl⟩ := rowV_form hv
  have HV := Lib.hid hv
  have HLE := Lib.hid hle
  obtain ⟨R, hR⟩ : ∃ R, R = findN is src dst ze iv := ⟨_, rfl⟩
  rw [← hR]
  have HRR := Lib.hid (show R = match is.findIdx? (sameIn src dst iv ze) with | none => -1 | some i => (i : Int) from hR)
  clear hv hle hR
  go_enter Try.func66, Try.ntmps66
  go_wp2_with fail
  go_loopw [11] (fun i wr => ∃ j : Nat, j ≤ is.length ∧ i = .int .i64 j ∧ (is.take j).findIdx? (sameIn src dst iv ze) = none ∧ Below w.heap.size w wr) (fun i _ => is.length - (intOf i).toNat)
  case atStart => exact ⟨0, Nat.zero_le _, rfl, rfl, Below.refl _ _⟩
  case round =>
    obtain ⟨j, hj, rfl, hno, hbel⟩ := hrel
    have HNO := Lib.hid hno
    have HBE := Lib.hid hbel
    have hle := HLE.out
    by_cases hlt : j < is.length
    · have hej := List.getElem?_eq_getElem hlt
      obtain ⟨b1, o1, cc, u1, hform, hB, hcell, hpv⟩ := in_cells (HV.out.below hbel) hej
      injection hform with hf1 _ hf3
      subst hf1 hf3
      have HMISS := Lib.hid (fun hf => place_miss (f := sameIn src dst iv ze) hno hej hf)
      have HHIT := Lib.hid (fun hf => place_hit (f := sameIn src dst iv ze) hno hej hf)
      generalize is[j] = x at *
      obtain ⟨xs, xd, xa, xz, xi, xl, xp, xb, xdu, xt, xf⟩ := x
      have d0 : wr.cell? ⟨b1, o1 + j * 11, none⟩ = some (.int .u16 (xs : Int)) := hcell 0 _ rfl
      have d1 : wr.cell? ⟨b1, o1 + j * 11 + 1, none⟩ = some (.int .u16 (xd : Int)) := hcell 1 _ rfl
      have d3 : wr.cell? ⟨b1, o1 + j * 11 + 3, none⟩ = some (.int .u32 (xz : Int)) := hcell 3 _ rfl
      have d4 : wr.cell? ⟨b1, o1 + j * 11 + 4, none⟩ = some (.int .u32 (xi : Int)) := hcell 4 _ rfl
      have hbz : b1 < wr.heap.size := Nat.lt_of_lt_of_le hB hbel.size
      clear hno hbel hcell hpv hej
      by_cases e1 : xs = src
      · subst e1
        by_cases e2 : xd = dst
        · subst e2
          by_cases e3 : xz = ze
          · subst e3
            by_cases e4 : xi = iv
            · subst e4
              have HF := Lib.hid (HHIT.out (by simp [sameIn]))
              clear HMISS HHIT
              go_wp2_with fail
              go_ret
              exact ⟨by rw [HRR.out, HF.out]; rfl, HBE.out⟩
            · have hne : ((xi : Int) == (iv : Int)) = false := by simp; omega
              have HM := Lib.hid (HMISS.out (by simp [sameIn, e4]))
              clear HMISS HHIT e4
              go_wp2_with fail
              go_roundw
              case rel => exact ⟨j + 1, by omega, by go_num, HM.out, HBE.out⟩
              case measure => simp [intOf]; omega
          · have hne : ((xz : Int) == (ze : Int)) = false := by simp; omega
            have HM := Lib.hid (HMISS.out (by simp [sameIn, e3]))
            clear HMISS HHIT e3
            go_wp2_with fail
            go_roundw
            case rel => exact ⟨j + 1, by omega, by go_num, HM.out, HBE.out⟩
            case measure => simp [intOf]; omega
        · have hne : ((xd : Int) == (dst : Int)) = false := by simp; omega
          have HM := Lib.hid (HMISS.out (by simp [sameIn, e2]))
          clear HMISS HHIT e2
          go_wp2_with fail
          go_roundw
          case rel => exact ⟨j + 1, by omega, by go_num, HM.out, HBE.out⟩
          case measure => simp [intOf]; omega
      · have hne : ((xs : Int) == (src : Int)) = false := by simp; omega
        have HM := Lib.hid (HMISS.out (by simp [sameIn, e1]))
        clear HMISS HHIT e1
        go_wp2_with fail
        go_roundw
        case rel => exact ⟨j + 1, by omega, by go_num, HM.out, HBE.out⟩
        case measure => simp [intOf]; omega
    · have hje : j = is.length := by omega
      subst hje
      rw [List.take_length] at hno
      have HF := Lib.hid hno
      clear hno hbel HNO
      go_wp2_with fail
      go_ret
      exact ⟨by rw [HRR.out, HF.out]; rfl, HBE.out⟩

set_option maxRecDepth 100000 in
set_option maxHeartbeats 4000000 in
theorem rsegment_any (o : OutS) (i : Nat) (hi : i < o.parts.length) (hl : o.parts.length ≤ 65536) (hp : ∀ p ∈ o.parts, p.length ≤ 65536) (hz : o.zero < 4294967296) (v : Value) (w : World) (h : PartsV w w.heap.size v o.parts) :
    Calls Try.prog 64 #[outV o v, .int .i64 (i : Int)] w (SegPost w o i) := by
  obtain ⟨us, hul, hs, hps⟩ := h
  obtain ⟨A, c, rfl, hnc, hcm, hcl, _⟩ := id hs
  have hiu : i < us.length := by omega
  have hbp := hps.2 i _ _ (List.getElem?_eq_getElem hiu) (List.getElem?_eq_getElem hi)
  obtain ⟨bb, off, rfl, hbB, hcell⟩ := hs.cells (List.getElem?_eq_getElem hiu)
  have hc0 := hcell _ _ (List.getElem?_eq_getElem hiu)
  have hpl := hp _ (List.getElem_mem hi)
  have HX := Lib.hid (show ∀ (w' : World) (u : Value), Below w.heap.size w w' → OB w' w.heap.size u o.parts[i] → SegPost w o i (.returned (lowV (segL o i) u)) w' from fun w' u h1 h2 => ⟨h1, u, rfl, by rw [List.getD_eq_getElem?_getD, List.getElem?_eq_getElem hi]; exact h2⟩)
  have HS := Lib.hid (show segL o i = ⟨false, true, o.app, ((o.zero % 8192 : Nat) : Int), (i : Int), (o.parts.length : Int) - 1, 0, 0, false⟩ from rfl)
  generalize hQ : SegPost w o i = Q at *
  generalize segL o i = sg at *
  generalize o.parts[i] = pk at *
  obtain ⟨A2, c2, hform, _⟩ := id hbp
  rw [hform] at hc0 hbp
  have HB := Lib.hid hbp
  clear hQ hul hs hps hcl hcell hform hbp hp
  obtain ⟨o0, o1, o2, o3, o4, o5, o6, o7, o8, o9⟩ := o
  dsimp only at *
  generalize o5.length = n at *
  have hw1 : IntKind.i64.wrap ((n : Int) - 1) = (n : Int) - 1 := IntWalk.i64_in _ (by omega)
  have hw2 : IntKind.i64.wrap (((o3 % 8192 : Nat) : Int)) = ((o3 % 8192 : Nat) : Int) := IntWalk.i64_in _ (by omega)
  have ht : ((o3 : Int).tmod 8192) = ((o3 % 8192 : Nat) : Int) := by rw [Int.tmod_eq_emod_of_nonneg (by omega)]; omega
  generalize hzz : o3 % 8192 = z at *
  have HZ := Lib.hid hzz
  clear hzz
  go_enter Try.func64, Try.ntmps64
  go_wp2_with fail
  obtain ⟨W, hW⟩ : ∃ W, W = (w.alloc (.cells #[.int .u16 (o0 : Int), .int .u16 (o1 : Int), .bool o2, .int .u32 (o3 : Int), .int .u32 (o4 : Int), .slice (some ⟨bb, off, none⟩) n c, .int .u32 (o6 : Int), .int .i64 o7, .int .i64 o8, .int .i64 o9] 75)).alloc (.cells #[.bool false, .bool false, .bool false, .int .i64 0, .int .i64 0, .int .i64 0, .int .i64 0, .int .u32 0, .bool false, .slice none 0 0] 25) := ⟨_, rfl⟩
  have hA : Below w.heap.size w W := by rw [hW]; exact al2 _ _ _
  have hb0 : Box W w.heap.size (outCs ⟨o0, o1, o2, o3, o4, o5, o6, o7, o8, o9⟩ (.slice (some ⟨bb, off, none⟩) n c)) := by rw [hW]; exact (Box.new _ _ _).alloc _
  have hb1 : Box W (w.heap.size + 1) (lowCs low0 (.slice none 0 0)) := ⟨25, by rw [hW, heap_al, if_pos (by simp)]; rfl⟩
  rw [← hW]
  clear hW
  have HSW := Lib.hid (fun W' (hW' : Below W.heap.size W W') => HB.out.on (hA.trans (hW'.mono hA.size)))
  have b2 := hb0.cell (j := 2) rfl
  have b3 := hb0.cell (j := 3) rfl
  have b5 := hb0.cell (j := 5) rfl
  have hc1 := (hA.cell (p := ⟨bb, off + i, none⟩) hbB).trans hc0
  have z0 := hb0.lt
  have z1 := hb1.lt
  have zb : bb < W.heap.size := by omega
  have n0 : bb ≠ w.heap.size + 1 := by omega
  have n1 : w.heap.size + 1 ≠ bb := by omega
  obtain ⟨f0, f1, f2, f3, f4, f5, f6, f7, f8, f9⟩ := low_free hb1
  obtain ⟨k0, k1, k2, k3, k4, k5, k6, k7, k8, k9⟩ := low_box hb1
  dsimp only [low0] at k0 k1 k2 k3 k4 k5 k6 k7 k8
  have HA := Lib.hid hA
  have H1 := Lib.hid hb1
  clear hA hb0 hb1 hc0
  refine wp_region_noPanic ?_
  refine wp_region_held_drew (S := fun w' => w'.cell? ⟨w.heap.size, 2, none⟩ = some (.bool o2) ∧ w'.cell? ⟨w.heap.size, 3, none⟩ = some (.int .u32 (o3 : Int)) ∧ w'.cell? ⟨w.heap.size, 5, none⟩ = some (.slice (some ⟨bb, off, none⟩) n c) ∧ w'.cell? ⟨bb, off + i, none⟩ = some (.slice A2 pk.length c2)) (by kernel_rfl) (by (go_keep; try omega)) (fun hHeld => ?_)
  refine wpAnyH_take (i := 0) (v := ?_) rfl (by kernel_rfl) (by kernel_rfl) (by kernel_rfl) (fun _ _ _ h => h) (Or.inl ⟨by rfl, ?_⟩) (by assumption) ?_
  rotate_left
  · intro w hSw
    (try dsimp only at hSw)
    go_simp
    first | done | with_reducible rfl
  simp only [Act.put, List.getElem_toArray, List.getElem_cons_zero, List.setIfInBounds_toArray, List.set_cons_zero, List.set_cons_succ]
  refine wpAnyH_take (i := 1) (v := ?_) rfl (by kernel_rfl) (by kernel_rfl) (by kernel_rfl) (fun _ _ _ h => h) (Or.inl ⟨by rfl, ?_⟩) (by assumption) ?_
  rotate_left
  · intro w hSw
    (try dsimp only at hSw)
    go_simp
    first | done | with_reducible rfl
  simp only [Act.put, List.getElem_toArray, List.getElem_cons_succ, List.getElem_cons_zero, List.setIfInBounds_toArray, List.set_cons_zero, List.set_cons_succ]
  refine wpAnyH_take (i := 2) (v := ?_) rfl (by kernel_rfl) (by kernel_rfl) (by kernel_rfl) (fun _ _ _ h => h) (Or.inl ⟨by rfl, ?_⟩) (by assumption) ?_
  rotate_left
  · intro w hSw
    (try dsimp only at hSw)
    go_simp
    first | done | with_reducible rfl
  simp only [Act.put, List.getElem_toArray, List.getElem_cons_succ, List.getElem_cons_zero, List.setIfInBounds_toArray, List.set_cons_zero, List.set_cons_succ]
  refine wpAnyH_take (i := 3) (v := ?_) rfl (by kernel_rfl) (by kernel_rfl) (by kernel_rfl) (fun _ _ _ h => h) (Or.inl ⟨by rfl, ?_⟩) (by assumption) ?_
  rotate_left
  · intro w hSw
    (try dsimp only at hSw)
    go_simp
    first | done | with_reducible rfl
  simp only [Act.put, List.getElem_toArray, List.getElem_cons_succ, List.getElem_cons_zero, List.setIfInBounds_toArray, List.set_cons_zero, List.set_cons_succ]
  refine wpAnyH_take (i := 4) (v := ?_) rfl (by kernel_rfl) (by kernel_rfl) (by kernel_rfl) (fun _ _ _ h => h) (Or.inl ⟨by rfl, ?_⟩) (by assumption) ?_
  rotate_left
  · intro w hSw
    (try dsimp only at hSw)
    go_simp
    first | done | with_reducible rfl
  simp only [Act.put, List.getElem_toArray, List.getElem_cons_succ, List.getElem_cons_zero, List.setIfInBounds_toArray, List.set_cons_zero, List.set_cons_succ]
  refine wpAnyH_take (i := 5) (v := ?_) rfl (by kernel_rfl) (by kernel_rfl) (by kernel_rfl) (fun _ _ _ h => h) (Or.inl ⟨by rfl, ?_⟩) (by assumption) ?_
  rotate_left
  · intro w hSw
    (try dsimp only at hSw)
    go_simp
    first | done | with_reducible rfl
  simp only [Act.put, List.getElem_toArray, List.getElem_cons_succ, List.getElem_cons_zero, List.setIfInBounds_toArray, List.set_cons_zero, List.set_cons_succ]
  refine wpAnyH_take (i := 6) (v := ?_) rfl (by kernel_rfl) (by kernel_rfl) (by kernel_rfl) (fun _ _ _ h => h) (Or.inl ⟨by rfl, ?_⟩) (by assumption) ?_
  rotate_left
  · intro w hSw
    (try dsimp only at hSw)
    go_simp
    first | done | with_reducible rfl
  simp only [Act.put, List.getElem_toArray, List.getElem_cons_succ, List.getElem_cons_zero, List.setIfInBounds_toArray, List.set_cons_zero, List.set_cons_succ]
  refine wpAnyH_take (i := 7) (v := ?_) rfl (by kernel_rfl) (by kernel_rfl) (by kernel_rfl) (fun _ _ _ h => h) (Or.inl ⟨by rfl, ?_⟩) (by assumption) ?_
  rotate_left
  · intro w hSw
    (try dsimp only at hSw)
    go_simp
    first | done | with_reducible rfl
  simp only [Act.put, List.getElem_toArray, List.getElem_cons_succ, List.getElem_cons_zero, List.setIfInBounds_toArray, List.set_cons_zero, List.set_cons_succ]
  refine wpAnyH_take (i := 8) (v := ?_) rfl (by kernel_rfl) (by kernel_rfl) (by kernel_rfl) (fun _ _ _ h => h) (Or.inl ⟨by rfl, ?_⟩) (by assumption) ?_
  rotate_left
  · intro w hSw
    (try dsimp only at hSw)
    go_simp
    first | done | with_reducible rfl
  simp only [Act.put, List.getElem_toArray, List.getElem_cons_succ, List.getElem_cons_zero, List.setIfInBounds_toArray, List.set_cons_zero, List.set_cons_succ]
  refine wpAnyH_take (i := 9) (v := ?_) rfl (by kernel_rfl) (by kernel_rfl) (by kernel_rfl) (fun _ _ _ h => h) (Or.inl ⟨by rfl, ?_⟩) (by assumption) ?_
  rotate_left
  · intro w hSw
    (try dsimp only at hSw)
    go_simp
    first | done | with_reducible rfl
  simp only [Act.put, List.getElem_toArray, List.getElem_cons_succ, List.getElem_cons_zero, List.setIfInBounds_toArray, List.set_cons_zero, List.set_cons_succ]
  refine wpAnyH_take (i := 10) (v := ?_) rfl (by kernel_rfl) (by kernel_rfl) (by kernel_rfl) (fun _ _ _ h => h) (Or.inl ⟨by rfl, ?_⟩) (by assumption) ?_
  rotate_left
  · intro w hSw
    (try dsimp only at hSw)
    go_simp
    first | done | with_reducible rfl
  simp only [Act.put, List.getElem_toArray, List.getElem_cons_succ, List.getElem_cons_zero, List.setIfInBounds_toArray, List.set_cons_zero, List.set_cons_succ]
  refine wpAnyH_take (i := 12) (v := ?_) rfl (by kernel_rfl) (by kernel_rfl) (by kernel_rfl) (fun _ _ _ h => h) (Or.inl ⟨by rfl, ?_⟩) (by assumption) ?_
  rotate_left
  · intro w hSw
    (try dsimp only at hSw)
    go_simp
    first | done | with_reducible rfl
  simp only [Act.put, List.getElem_toArray, List.getElem_cons_succ, List.getElem_cons_zero, List.setIfInBounds_toArray, List.set_cons_zero, List.set_cons_succ]
  refine wpAnyH_take (i := 13) (v := ?_) rfl (by kernel_rfl) (by kernel_rfl) (by kernel_rfl) (fun _ _ _ h => h) (Or.inl ⟨by rfl, ?_⟩) (by assumption) ?_
  rotate_left
  · intro w hSw
    (try dsimp only at hSw)
    go_simp
    first | done | with_reducible rfl
  simp only [Act.put, List.getElem_toArray, List.getElem_cons_succ, List.getElem_cons_zero, List.setIfInBounds_toArray, List.set_cons_zero, List.set_cons_succ]
  refine wpAnyH_take (i := 14) (v := ?_) rfl (by kernel_rfl) (by kernel_rfl) (by kernel_rfl) (fun _ _ _ h => h) (Or.inl ⟨by rfl, ?_⟩) (by assumption) ?_
  rotate_left
  · intro w hSw
    (try dsimp only at hSw)
    go_simp
    first | done | with_reducible rfl
  simp only [Act.put, List.getElem_toArray, List.getElem_cons_succ, List.getElem_cons_zero, List.setIfInBounds_toArray, List.set_cons_zero, List.set_cons_succ]
  refine wpAnyH_take (i := 15) (v := ?_) rfl (by kernel_rfl) (by kernel_rfl) (by kernel_rfl) (fun _ _ _ h => h) (Or.inl ⟨by rfl, ?_⟩) (by assumption) ?_
  rotate_left
  · intro w hSw
    (try dsimp only at hSw)
    go_simp
    first | done | with_reducible rfl
  simp only [Act.put, List.getElem_toArray, List.getElem_cons_succ, List.getElem_cons_zero, List.setIfInBounds_toArray, List.set_cons_zero, List.set_cons_succ]
  refine wpAnyH_take (i := 16) (v := ?_) rfl (by kernel_rfl) (by kernel_rfl) (by kernel_rfl) (fun _ _ _ h => h) (Or.inl ⟨by rfl, ?_⟩) (by assumption) ?_
  rotate_left
  · intro w hSw
    (try dsimp only at hSw)
    go_simp
    first | done | with_reducible rfl
  simp only [Act.put, List.getElem_toArray, List.getElem_cons_succ, List.getElem_cons_zero, List.setIfInBounds_toArray, List.set_cons_zero, List.set_cons_succ]
  refine wpAnyH_ready (rs := [11]) (by kernel_rfl) (by simp) ?_
  refine AllReadyH.cons rfl (fun K hK => ?_) AllReadyH.nil
  go_simp
  first | (refine hK.out _ _ ?_ (fun hHeld => ?_)) | (go_wp2_with fail; refine hK.out _ _ ?_ (fun hHeld => ?_))
  · (go_keep; try omega)
  clear hK K
  try simp only [Act.put, List.getElem_toArray, List.getElem_cons_succ, List.getElem_cons_zero, List.setIfInBounds_toArray, List.set_cons_zero, List.set_cons_succ]
  refine wpAnyH_ready (rs := [17]) (by kernel_rfl) (by simp) ?_
  refine AllReadyH.cons rfl (fun K hK => ?_) AllReadyH.nil
  refine step_by _ elB rfl (.tmp 16) (.tmp 21) rfl rfl (OB.nil _) rfl (HSW.out _ (((Below.refl _ _).drew).alloc (Nat.le_refl _) _)) ?_ ?_ ?_
  · simp; omega
  · simp
  intro v9 w9 hown9 hb9
  have hb10 : Below W.heap.size W w9 := (((Below.refl _ _).drew).alloc (Nat.le_refl _) _).trans hb9
  rw [List.nil_append] at hown9
  obtain ⟨A3, c3, rfl⟩ := own_slice hown9
  have HB3 := Lib.hid hb10
  have HU4 := Lib.hid (show w9.ownsRow W.heap.size 5 1 (.slice A3 pk.length c3) pk.length (bys pk) from hown9)
  have H3 := Lib.hid (H1.out.on hb10)
  have e2 := (hb10.cell (p := ⟨w.heap.size, 2, none⟩) z0).trans b2
  have e3 := (hb10.cell (p := ⟨w.heap.size, 3, none⟩) z0).trans b3
  have e5 := (hb10.cell (p := ⟨w.heap.size, 5, none⟩) z0).trans b5
  have ec := (hb10.cell (p := ⟨bb, off + i, none⟩) zb).trans hc1
  refine hK.out _ _ ⟨e2, e3, e5, ec⟩ (fun hHeld => ?_)
  clear hK K e2 e3 e5 ec f0 f1 f2 f3 f4 f5 f6 f7 f8 f9 k0 k1 k2 k3 k4 k5 k6 k7 k8 k9
  obtain ⟨f0, f1, f2, f3, f4, f5, f6, f7, f8, f9⟩ := low_free H3.out
  obtain ⟨k0, k1, k2, k3, k4, k5, k6, k7, k8, k9⟩ := low_box H3.out
  dsimp only [low0] at k0 k1 k2 k3 k4 k5 k6 k7 k8
  have zz := H3.out.lt
  clear hown9 hb9 hb10
  simp only [Act.put, List.getElem_toArray, List.getElem_cons_succ, List.getElem_cons_zero, List.setIfInBounds_toArray, List.set_cons_zero, List.set_cons_succ]
  refine wpAnyH_take (i := 18) (v := ?_) rfl (by kernel_rfl) (by kernel_rfl) (by kernel_rfl) (fun _ _ _ h => h) (Or.inl ⟨by rfl, ?_⟩) (by assumption) ?_
  rotate_left
  · intro w hSw
    (try dsimp only at hSw)
    go_simp
    first | done | with_reducible rfl
  simp only [Act.put, List.getElem_toArray, List.getElem_cons_succ, List.getElem_cons_zero, List.setIfInBounds_toArray, List.set_cons_zero, List.set_cons_succ]
  refine wpAnyH_ready (rs := [19]) (by kernel_rfl) (by simp) ?_
  refine AllReadyH.cons rfl (fun K hK => ?_) AllReadyH.nil
  go_simp
  first | (refine hK.out _ _ ?_ (fun hHeld => ?_)) | (go_wp2_with fail; refine hK.out _ _ ?_ (fun hHeld => ?_))
  · (go_keep; try omega)
  clear hK K
  try simp only [Act.put, List.getElem_toArray, List.getElem_cons_succ, List.getElem_cons_zero, List.setIfInBounds_toArray, List.set_cons_zero, List.set_cons_succ]
  refine wpAnyH_done (by kernel_rfl) ?_ _
  refine NoPanic.normal ?_
  obtain rfl := HS.out
  clear hHeld f0 f1 f2 f3 f4 f5 f6 f7 f8 f9 k0 k1 k2 k3 k4 k5 k6 k7 k8 k9 b2 b3 b5 hc1 z0 zb n0 n1 zz
  go_wp2_with fail
  refine bodyPost_ret (res_low1 rfl _ _ (w.heap.size + 1) ⟨false, true, o2, (z : Int), (i : Int), (n : Int) - 1, 0, 0, false⟩ (.slice A3 pk.length c3) rfl ?_) rfl (HX.out _ _ ?_ ?_)
  · exact H3.out.put (lowCs ⟨false, true, o2, (z : Int), (i : Int), (n : Int) - 1, 0, 0, false⟩ (.slice A3 pk.length c3)) rfl
  · exact below_puts (b := w.heap.size + 1) (Nat.le_succ _) 0 (lowCs ⟨false, true, o2, (z : Int), (i : Int), (n : Int) - 1, 0, 0, false⟩ (.slice A3 pk.length c3)) (HA.out.trans (HB3.out.mono HA.out.size))
  · exact own_base (own_puts HU4.out (b := w.heap.size + 1) (fun g hg => by have := (HU4.out.lt g hg).1; have := z1; omega) 0 (lowCs ⟨false, true, o2, (z : Int), (i : Int), (n : Int) - 1, 0, 0, false⟩ (.slice A3 pk.length c3))) HA.out.size

theorem Sl.frontN {w : World} {B size n c : Nat} {A : Option Addr} {cs : List Value} (h : Sl w B size (.slice A n c) n cs) {k : Nat} (hk : k ≤ n) : Sl w B size (.slice A k c) k (cs.take (k * size)) := by
  obtain ⟨A', c', e, h1, h2, h3, h4⟩ := h
  injection e with e1 _ e3
  subst e1 e3
  have hkn : k * size ≤ n * size := Nat.mul_le_mul_right _ hk
  refine ⟨A, c, rfl, by omega, h2, by rw [List.length_take, h3]; omega, ?_⟩
  rcases h4 with h4 | ⟨b, off, hA, hb, hc⟩
  · exact .inl (by rw [h4, List.take_nil])
  · refine .inr ⟨b, off, hA, hb, fun j u hu => hc j u ?_⟩
    rw [List.getElem?_take] at hu
    split at hu
    · exact hu
    · cases hu
section
variable {α : Type} (f : α → Value → List Value) (m : Nat) (pf : α → List (List UInt8))
/-- A row of the call's own of structs whose parts lie below block B. -/
def MixV (t : TypeId) (w : World) (B base : Nat) (v : Value) (os : List α) : Prop :=
  ∃ vs : List Value, vs.length = os.length ∧ w.ownsRow base t m v os.length (flat2 f os vs) ∧ ∀ (k : Nat) o u, os[k]? = some o → vs[k]? = some u → PartsV w B u (pf o)
variable {f m pf} {w w' : World} {B B' base : Nat} {v : Value} {os : List α} {t : TypeId}
theorem MixV.reads (h : MixV f m pf t w B base v os) (hB : B ≤ w.heap.size) : RowV f m pf w w.heap.size v os := by
  obtain ⟨vs, h1, h2, h3⟩ := h
  exact ⟨vs, h1, Sl.of_own h2, fun k o u ho hu => (h3 k o u ho hu).more hB⟩
theorem MixV.on (h : MixV f m pf t w B base v os) (hb : Below w.heap.size w w') (hB : B ≤ w.heap.size) : MixV f m pf t w' B base v os := by
  obtain ⟨vs, h1, h2, h3⟩ := h
  exact ⟨vs, h1, own_on h2 hb, fun k o u ho hu => (h3 k o u ho hu).below (hb.mono hB)⟩
theorem MixV.form (h : MixV f m pf t w B base v os) : ∃ A c, v = .slice A os.length c := by
  obtain ⟨vs, _, h2, _⟩ := h
  exact own_form h2
theorem parts_snoc {vs : List Value} {x : Value} {o : α} (hl : vs.length = os.length) (h3 : ∀ (k : Nat) o u, os[k]? = some o → vs[k]? = some u → PartsV w B u (pf o)) (hx : PartsV w B x (pf o)) :
    ∀ (k : Nat) o' u, (os ++ [o])[k]? = some o' → (vs ++ [x])[k]? = some u → PartsV w B u (pf o') := by
  intro k o' u ho hu
  by_cases hk : k < os.length
  · rw [List.getElem?_append_left hk] at ho
    rw [List.getElem?_append_left (by omega)] at hu
    exact h3 k o' u ho hu
  · have hke : k = os.length := by
      have := (List.getElem?_eq_some_iff.1 ho).1
      simp at this
      omega
    subst hke
    rw [List.getElem?_append_right (Nat.le_refl _), Nat.sub_self] at ho
    rw [List.getElem?_append_right (by omega), hl, Nat.sub_self] at hu
    simp only [List.getElem?_cons_zero, Option.some.injEq] at ho hu
    subst ho hu
    exact hx
/-- One struct more. -/
theorem MixV.snoc {vs : List Value} {x v' : Value} {o : α} {n : Nat} (hl : vs.length = os.length) (hn : n = os.length) (h2 : w.ownsRow base t m v n (flat2 f os vs)) (h3 : ∀ (k : Nat) o u, os[k]? = some o → vs[k]? = some u → PartsV w B u (pf o))
    (hx : PartsV w B x (pf o)) (hr : w'.ownsRow base t m v' (n + 1) (flat2 f os vs ++ f o x)) (hg : w.grownBy w' v.ownBlock) (hB : B ≤ base) (hb : base ≤ w.heap.size) : MixV f m pf t w' B base v' (os ++ [o]) := by
  subst hn
  have hbb : Below B w w' := below_app (Below.refl _ _) h2 hg hB hb
  refine ⟨vs ++ [x], by simp [hl], ?_, fun k o' u ho hu => ((parts_snoc hl h3 hx) k o' u ho hu).below hbb⟩
  rw [flat2_append _ _ _ _ hl, flat2_one, show (os ++ [o]).length = os.length + 1 by simp]
  exact hr
end
/-- The blocks that meet P, and those that have come since. -/
def NewB (P : Nat → Prop) (w w' : World) (b : Nat) : Prop := P b ∨ (w.heap.size ≤ b ∧ b < w'.heap.size)
section
variable {α : Type} (f : α → Value → List Value) (m : Nat) (pf : α → List (List UInt8))
/-- A row of the call's own of structs whose parts lie in blocks that meet P. -/
def MixP (t : TypeId) (w : World) (P : Nat → Prop) (base : Nat) (v : Value) (os : List α) : Prop :=
  ∃ vs : List Value, vs.length = os.length ∧ w.ownsRow base t m v os.length (flat2 f os vs) ∧ ∀ (k : Nat) o u, os[k]? = some o → vs[k]? = some u → PartsP w P u (pf o)
variable {f m pf} {w w' : World} {P : Nat → Prop} {base : Nat} {v : Value} {os : List α} {t : TypeId}
theorem partsP_below {u : Value} {ps : List (List UInt8)} {B : Nat} (h : PartsP w P u ps) (hb : Below B w w') (hP : ∀ b, P b → b < B) : PartsP w' P u ps := h.keep fun b _ hb' => hb.cell (p := ⟨b, _, none⟩) (hP b hb')
theorem MixP.form (h : MixP f m pf t w P base v os) : ∃ A c, v = .slice A os.length c := by
  obtain ⟨vs, _, h2, _⟩ := h
  exact own_form h2
theorem MixP.toP {Q : Nat → Prop} (h : MixP f m pf t w P base v os) (h1 : ∀ b, P b → Q b) (h2 : ∀ b, base ≤ b → b < w.heap.size → Q b) : RowP f m pf w Q v os := by
  obtain ⟨vs, k1, k2, k3⟩ := h
  exact ⟨vs, k1, (Sl2.of_own k2).toP h2, fun k o u ho hu => (k3 k o u ho hu).imp h1⟩
theorem partsP_snoc {vs : List Value} {x : Value} {o : α} (hl : vs.length = os.length) (h3 : ∀ (k : Nat) o u, os[k]? = some o → vs[k]? = some u → PartsP w P u (pf o)) (hx : PartsP w P x (pf o)) :
    ∀ (k : Nat) o' u, (os ++ [o])[k]? = some o' → (vs ++ [x])[k]? = some u → PartsP w P u (pf o') := by
  intro k o' u ho hu
  by_cases hk : k < os.length
  · rw [List.getElem?_append_left hk] at ho
    rw [List.getElem?_append_left (by omega)] at hu
    exact h3 k o' u ho hu
  · have hke : k = os.length := by
      have := (List.getElem?_eq_some_iff.1 ho).1
      simp at this
      omega
    subst hke
    rw [List.getElem?_append_right (Nat.le_refl _), Nat.sub_self] at ho
    rw [List.getElem?_append_right (by omega), hl, Nat.sub_self] at hu
    simp only [List.getElem?_cons_zero, Option.some.injEq] at ho hu
    subst ho hu
    exact hx
/-- One struct more. -/
theorem MixP.snoc {vs : List Value} {x v' : Value} {o : α} {n : Nat} (hl : vs.length = os.length) (hn : n = os.length) (h2 : w.ownsRow base t m v n (flat2 f os vs)) (h3 : ∀ (k : Nat) o u, os[k]? = some o → vs[k]? = some u → PartsP w P u (pf o))
    (hx : PartsP w P x (pf o)) (hr : w'.ownsRow base t m v' (n + 1) (flat2 f os vs ++ f o x)) (hg : w.grownBy w' v.ownBlock) (hP : ∀ b, P b → b < base) (hb : base ≤ w.heap.size) : MixP f m pf t w' P base v' (os ++ [o]) := by
  subst hn
  have hbb : Below base w w' := below_app (Below.refl _ _) h2 hg (Nat.le_refl _) hb
  refine ⟨vs ++ [x], by simp [hl], ?_, fun k o' u ho hu => partsP_below ((partsP_snoc hl h3 hx) k o' u ho hu) hbb hP⟩
  rw [flat2_append _ _ _ _ hl, flat2_one, show (os ++ [o]).length = os.length + 1 by simp]
  exact hr
end
/-- The cells of struct number i of a row. -/
theorem rowP_cells {α : Type} {f : α → Value → List Value} {m : Nat} {pf : α → List (List UInt8)} (hm : ∀ o v, (f o v).length = m) (hm0 : 0 < m) {w : World} {P : Nat → Prop} {v : Value} {os : List α} (h : RowP f m pf w P v os) {i : Nat} {x : α} (hi : os[i]? = some x) :
    ∃ (b o c : Nat) (u : Value), v = .slice (some ⟨b, o, none⟩) os.length c ∧ P b ∧ (∀ (j : Nat) (y : Value), (f x u)[j]? = some y → w.cell? ⟨b, o + i * m + j, none⟩ = some y) ∧ PartsP w P u (pf x) := by
  obtain ⟨vs, h1, h2, h3⟩ := h
  have hiv : i < vs.length := by have := (List.getElem?_eq_some_iff.1 hi).1; omega
  have hv := List.getElem?_eq_getElem hiv
  have hp := h3 i x vs[i] hi hv
  have c0 := flat2_at hm os vs i x vs[i] 0 h1 hi hv hm0
  obtain ⟨A, c, rfl, _, _, _, h4⟩ := h2
  rcases h4 with h4 | ⟨b, o, rfl, hB, hc⟩
  · have hl := hm x vs[i]
    have h5 : (f x vs[i])[0]? ≠ none := by rw [List.getElem?_eq_getElem (by omega)]; simp
    exact absurd (by rw [← c0, h4]; rfl) h5
  · refine ⟨b, o, c, vs[i], rfl, hB, fun j y hy => ?_, hp⟩
    have hj : j < m := by rw [← hm x vs[i]]; exact (List.getElem?_eq_some_iff.1 hy).1
    have cj := flat2_at hm os vs i x vs[i] j h1 hi hv hj
    rw [Nat.add_assoc]
    exact hc _ _ (cj.trans hy)
theorem own_nil (w : World) (t : TypeId) (size : Nat) : (w.alloc (.cells #[] t)).ownsRow w.heap.size t size (.slice (some ⟨w.heap.size, 0, none⟩) 0 0) 0 [] := by
  have h := World.ownsRow_lit (base := w.heap.size) (e := t) (size := size) w #[] 0 (Nat.le_refl _) (by simp [maxLen]) (by simp)
  exact h

def WoPost (P : Nat → Prop) (os : List OutS) (i : Nat) (w : World) (e : Ending) (w' : World) : Prop :=
  Below w.heap.size w w' ∧ ∃ u, e = .returned u ∧ RowP outCs 10 OutS.parts w' (NewB P w w') u (os.eraseIdx i)
set_option maxRecDepth 100000 in
set_option maxHeartbeats 4000000 in
theorem rwithout_any (P : Nat → Prop) (os : List OutS) (i : Nat) (v : Value) (w : World) (hP : ∀ b, P b → b < w.heap.size) (hv : RowP outCs 10 OutS.parts w P v os) (hi : i < os.length) (hle : os.length ≤ 65536) :
    Calls Try.prog 70 #[v, .int .i64 (i : Int)] w (WoPost P os i w) := by
  obtain ⟨vs, hl, hsP, hp⟩ := hv
  have hs := hsP.weak hP
  clear hsP
  obtain ⟨b, o, c, rfl, hb, hnc, hcm, hc0⟩ := hs.at_ (k := 0) (u := (flat2 outCs os vs)[0]'(by rw [hs.len]; omega)) (List.getElem?_eq_getElem _)
  have HOK := Lib.hid (show ∀ (w' : World) (u : Value), Below w.heap.size w w' → w'.ownsRow w.heap.size 75 10 u (i + (os.length - (i + 1))) ((flat2 outCs os vs).take (i * 10) ++ (flat2 outCs os vs).drop ((i + 1) * 10)) → WoPost P os i w (.returned u) w' from by
    intro w' u h1 h2
    refine ⟨h1, u, rfl, vs.eraseIdx i, ?_, ?_, ?_⟩
    · rw [List.length_eraseIdx_of_lt (by omega), List.length_eraseIdx_of_lt hi, hl]
    · have e1 : (os.eraseIdx i).length = i + (os.length - (i + 1)) := by rw [List.length_eraseIdx_of_lt hi]; omega
      have e2 : flat2 outCs (os.eraseIdx i) (vs.eraseIdx i) = (flat2 outCs os vs).take (i * 10) ++ (flat2 outCs os vs).drop ((i + 1) * 10) := by
        rw [flat2_take outCs_len os vs i hl (by omega), flat2_drop outCs_len os vs (i + 1) hl (by omega), ← flat2_append _ _ _ _ (by rw [List.length_take, List.length_take, hl]), List.eraseIdx_eq_take_drop_succ, List.eraseIdx_eq_take_drop_succ]
      rw [e1, e2]
      exact (Sl2.of_own h2).toP fun b h3 h4 => .inr ⟨h3, h4⟩
    · intro k o' u' ho hu
      rw [List.getElem?_eraseIdx] at ho hu
      have key : ∀ j, os[j]? = some o' → vs[j]? = some u' → PartsP w' (NewB P w w') u' (OutS.parts o') := fun j h3 h4 => (partsP_below (hp j o' u' h3 h4) h1 hP).imp fun _ h => .inl h
      split at ho
      · rename_i hk
        rw [if_pos hk] at hu
        exact key _ ho hu
      · rename_i hk
        rw [if_neg hk] at hu
        exact key _ ho hu)
  have HONE := Lib.hid (show ∀ u ∈ flat2 outCs os vs, u.oneCell' = true from fun u hu => flat2_cells (fun o v => outCs_one o) os vs (fun v hv => by
    obtain ⟨q, hq, rfl⟩ := List.getElem_of_mem hv
    exact partsV_one ((hp q _ _ (List.getElem?_eq_getElem (by omega)) (List.getElem?_eq_getElem hq)).weak hP)) u hu)
  have HF := Lib.hid (hs.frontN (k := i) (by omega))
  obtain ⟨AA, hAA⟩ : ∃ AA, (if c = i + 1 then (some ⟨b, o, none⟩ : Option Addr) else some ⟨b, o + (i + 1) * 10, none⟩) = AA := ⟨_, rfl⟩
  have hcu := hs.cutN (k := i + 1) (by omega)
  rw [hAA] at hcu
  have HC := Lib.hid hcu
  clear hs hp hc0 hcu
  generalize hN : os.length = N at *
  generalize WoPost P os i w = Q at *
  generalize flat2 outCs os vs = row at *
  clear hl hN hP
  have h1 : (i : Int) + 1 ≤ (N : Int) := by omega
  have h0 : (0 : Int) ≤ (i : Int) := by omega
  have h2 : (i : Int) ≤ (N : Int) := by omega
  have h2c : (i : Int) ≤ (c : Int) := by omega
  have hic : i ≤ c := by omega
  have hw1 : IntKind.i64.wrap ((i : Int) + 1) = (i : Int) + 1 := IntWalk.i64_in _ (by omega)
  have h01 : (0 : Int) ≤ (i : Int) + 1 := by omega
  have hit : ((i : Int) + 1).toNat = i + 1 := by omega
  go_enter Try.func70, Try.ntmps70
  go_wp2_with (first
    | (at_builtin
       refine app_sl _ elO rfl (.tmp 6) (.tmp 9) rfl rfl (own_nil w _ 10) rfl (HF.out.on (al1 _ _)) ?_ ?_ ?_ ?_
       (case refine_1 => exact fun u hu => HONE.out u (List.mem_of_mem_take hu))
       (case refine_2 => omega)
       (case refine_3 => simp)
       intro v9 w9 hown9 hg9 hnil9 hat9
       rw [Nat.zero_add, List.nil_append] at hown9
       have HO9 := Lib.hid hown9
       have HB9 := Lib.hid (show Below w.heap.size w w9 from below_app (al1 _ _) (own_nil w _ 10) hg9 (Nat.le_refl _) (by simp))
       obtain ⟨A9, c9, rfl⟩ := own_form hown9
       clear hown9 hg9 hnil9 hat9)
    | (at_builtin
       refine app_sl _ elO rfl (.tmp 11) (.tmp 15) rfl rfl HO9.out rfl (HC.out.on HB9.out) ?_ ?_ ?_ ?_
       (case refine_1 => exact fun u hu => HONE.out u (List.mem_of_mem_drop hu))
       (case refine_2 => omega)
       (case refine_3 => exact HB9.out.size)
       intro v8 w8 hown8 hg8 hnil8 hat8
       have HO8 := Lib.hid hown8
       have HB8 := Lib.hid (show Below w.heap.size w w8 from below_app HB9.out HO9.out hg8 (Nat.le_refl _) HB9.out.size)
       clear hown8 hg8 hnil8 hat8))
  exact HOK.out _ _ HB8.out HO8.out

abbrev inV (o : InS) (v : Value) : Value := .agg #[.int .u16 (o.src : Int), .int .u16 (o.dst : Int), .bool o.app, .int .u32 (o.zero : Int), .int .u32 (o.iv : Int), .int .i64 o.last, v, .int .u32 (o.blk : Int), .int .i64 o.due, .int .i64 o.ttl, .bool o.fin]
/-- The place of a message, or -1; the others. -/
def atN (p : Option Nat) : Int := match p with | none => -1 | some i => (i : Int)
def dropO (p : Option Nat) (is : List InS) : List InS := match p with | none => is | some i => is.eraseIdx i
theorem dropO_take_ne {p : Option Nat} {is : List InS} {k : Nat} {x : InS} (hx : is[k]? = some x) (h : ((k : Int) != atN p) = true) : dropO p (is.take (k + 1)) = dropO p (is.take k) ++ [x] := by
  have ht : is.take (k + 1) = is.take k ++ [x] := by rw [List.take_add_one, hx]; rfl
  have hk : k < is.length := (List.getElem?_eq_some_iff.1 hx).1
  have hl : (is.take k).length = k := by rw [List.length_take]; omega
  unfold dropO
  cases p with
  | none => exact ht
  | some i =>
    have hne : k ≠ i := by
      intro e
      subst e
      simp [atN] at h
    show (is.take (k + 1)).eraseIdx i = (is.take k).eraseIdx i ++ [x]
    rw [ht]
    rcases Nat.lt_or_ge i k with h1 | h1
    · rw [List.eraseIdx_append_of_lt_length (by omega)]
    · rw [List.eraseIdx_of_length_le (by rw [List.length_append, hl]; simp; omega), List.eraseIdx_of_length_le (by omega)]
theorem dropO_take_eq {p : Option Nat} {is : List InS} {k : Nat} (h : ((k : Int) != atN p) = false) : dropO p (is.take (k + 1)) = dropO p (is.take k) := by
  unfold dropO
  cases p with
  | none =>
    simp [atN] at h
    try omega
  | some i =>
    have h1 : (k : Int) = (i : Int) := by simpa [atN] using h
    have h2 : k = i := by omega
    subst h2
    show (is.take (k + 1)).eraseIdx k = (is.take k).eraseIdx k
    rcases Nat.lt_or_ge k is.length with h3 | h3
    · rw [List.eraseIdx_eq_take_drop_succ, List.eraseIdx_eq_take_drop_succ, List.take_take, List.take_take, List.drop_take, List.drop_take, Nat.min_eq_left (by omega), Nat.min_self]
      simp
    · rw [List.take_of_length_le (by omega), List.take_of_length_le h3]
theorem dropO_len (p : Option Nat) (is : List InS) : (dropO p is).length ≤ is.length := by
  unfold dropO
  cases p with
  | none => exact Nat.le_refl _
  | some i => show (is.eraseIdx i).length ≤ _; rw [List.length_eraseIdx]; split <;> omega
theorem inCells_one (is : List InS) {vs : List Value} {w : World} {B : Nat} (hl : vs.length = is.length) (h : ∀ (k : Nat) o u, is[k]? = some o → vs[k]? = some u → PartsV w B u (InS.parts o)) : ∀ u ∈ flat2 inCs is vs, u.oneCell' = true :=
  fun u hu => flat2_cells (fun o v => inCs_one o) is vs (fun v hv => by
    obtain ⟨q, hq, rfl⟩ := List.getElem_of_mem hv
    exact partsV_one (h q _ _ (List.getElem?_eq_getElem (by omega)) (List.getElem?_eq_getElem hq))) u hu
/-- The last messages of a row. -/
theorem RowV.last {α : Type} {f : α → Value → List Value} {m : Nat} {pf : α → List (List UInt8)} (hm : ∀ o v, (f o v).length = m) {w : World} {B : Nat} {b o c : Nat} {os : List α} (h : RowV f m pf w B (.slice (some ⟨b, o, none⟩) os.length c) os) {k : Nat} (hk : k ≤ os.length) :
    RowV f m pf w B (.slice (if c = k then some ⟨b, o, none⟩ else some ⟨b, o + k * m, none⟩) (os.length - k) (c - k)) (os.drop k) := by
  obtain ⟨vs, h1, h2, h3⟩ := h
  refine ⟨vs.drop k, by rw [List.length_drop, List.length_drop, h1], ?_, fun j o' u ho hu => ?_⟩
  · rw [List.length_drop, ← flat2_drop hm os vs k h1 hk]
    exact h2.cutN hk
  · rw [List.getElem?_drop] at ho hu
    exact h3 _ _ _ ho hu

theorem SlP.cutN {w : World} {P : Nat → Prop} {size n c b off : Nat} {cs : List Value} (h : SlP w P size (.slice (some ⟨b, off, none⟩) n c) n cs) {k : Nat} (hk : k ≤ n) :
    SlP w P size (.slice (if c = k then some ⟨b, off, none⟩ else some ⟨b, off + k * size, none⟩) (n - k) (c - k)) (n - k) (cs.drop (k * size)) := by
  obtain ⟨A, c', e, h1, h2, h3, h4⟩ := h
  injection e with e1 e2 e3
  subst e1 e3
  refine ⟨_, c - k, rfl, by omega, by omega, by rw [List.length_drop, h3, Nat.sub_mul], ?_⟩
  by_cases hkn : k = n
  · refine .inl (List.drop_eq_nil_of_le ?_)
    rw [h3, hkn]
    exact Nat.le_refl _
  · rcases h4 with h4 | ⟨b', off', e4, hb, hc⟩
    · exact .inl (by rw [h4, List.drop_nil])
    · injection e4 with e4
      injection e4 with e5 e6
      subst e5 e6
      refine .inr ⟨b, off + k * size, by rw [if_neg (by omega)], hb, fun j u hu => ?_⟩
      rw [Nat.add_assoc]
      exact hc _ _ (by rwa [List.getElem?_drop] at hu)
theorem RowP.last {α : Type} {f : α → Value → List Value} {m : Nat} {pf : α → List (List UInt8)} (hm : ∀ o v, (f o v).length = m) {w : World} {P : Nat → Prop} {b o c : Nat} {os : List α} (h : RowP f m pf w P (.slice (some ⟨b, o, none⟩) os.length c) os) {k : Nat} (hk : k ≤ os.length) :
    RowP f m pf w P (.slice (if c = k then some ⟨b, o, none⟩ else some ⟨b, o + k * m, none⟩) (os.length - k) (c - k)) (os.drop k) := by
  obtain ⟨vs, h1, h2, h3⟩ := h
  refine ⟨vs.drop k, by rw [List.length_drop, List.length_drop, h1], ?_, fun j o' u ho hu => ?_⟩
  · rw [List.length_drop, ← flat2_drop hm os vs k h1 hk]
    exact h2.cutN hk
  · rw [List.getElem?_drop] at ho hu
    exact h3 _ _ _ ho hu

def MvPost (P : Nat → Prop) (is : List InS) (p : Option Nat) (x : InS) (w : World) (e : Ending) (w' : World) : Prop :=
  Below w.heap.size w w' ∧ ∃ u, e = .returned u ∧ RowP inCs 11 InS.parts w' (NewB P w w') u (keep8 (dropO p is ++ [x]))
set_option maxRecDepth 100000 in
set_option maxHeartbeats 4000000 in
theorem rmove_any (P : Nat → Prop) (is : List InS) (p : Option Nat) (x : InS) (v xv : Value) (w : World) (hP : ∀ b, P b → b < w.heap.size) (hvP : RowP inCs 11 InS.parts w P v is) (hx : PartsP w P xv x.parts) (hle : is.length ≤ 8) :
    Calls Try.prog 69 #[v, .int .i64 (atN p), inV x xv] w (MvPost P is p x w) := by
  have hv := hvP.weak hP
  obtain ⟨A1, c1, rfl⟩ := rowV_form hv
  obtain ⟨A2, n2, c2, rfl⟩ : ∃ A n c, xv = .slice A n c := by
    obtain ⟨_, _, ⟨A, c, h, _⟩, _⟩ := id hx
    exact ⟨A, _, c, h⟩
  have HV := Lib.hid hvP
  have HPP := Lib.hid hP
  have HX := Lib.hid hx
  have HLE := Lib.hid hle
  have HOK := Lib.hid (show ∀ (w' : World) (u : Value), Below w.heap.size w w' → RowP inCs 11 InS.parts w' (NewB P w w') u (keep8 (dropO p is ++ [x])) → MvPost P is p x w (.returned u) w' from fun w' u h1 h2 => ⟨h1, u, rfl, h2⟩)
  generalize MvPost P is p x w = Q at *
  have HNE := Lib.hid (fun (k : Nat) (y : InS) (h1 : is[k]? = some y) (h2 : ((k : Int) != atN p) = true) => dropO_take_ne (p := p) h1 h2)
  have HEQ := Lib.hid (fun (k : Nat) (h2 : ((k : Int) != atN p) = false) => dropO_take_eq (p := p) (is := is) h2)
  generalize atN p = at1 at *
  clear hv hvP hP hx hle
  go_enter Try.func69, Try.ntmps69
  go_wp2_with fail
  obtain ⟨W2, hW2⟩ : ∃ W2, W2 = (w.alloc (.cells #[.int .u16 (x.src : Int), .int .u16 (x.dst : Int), .bool x.app, .int .u32 (x.zero : Int), .int .u32 (x.iv : Int), .int .i64 x.last, .slice A2 n2 c2, .int .u32 (x.blk : Int), .int .i64 x.due, .int .i64 x.ttl, .bool x.fin] 95)).alloc (.cells #[] 95) := ⟨_, rfl⟩
  have HA := Lib.hid (show Below w.heap.size w W2 by rw [hW2]; exact al2 _ _ _)
  have HBX := Lib.hid (show Box W2 w.heap.size (inCs x (.slice A2 n2 c2)) by rw [hW2]; exact (Box.new _ _ _).alloc _)
  have HN := Lib.hid (show W2.ownsRow (w.heap.size + 1) 95 11 (.slice (some ⟨w.heap.size + 1, 0, none⟩) 0 0) 0 [] by rw [hW2]; have h := own_nil (w.alloc (.cells #[.int .u16 (x.src : Int), .int .u16 (x.dst : Int), .bool x.app, .int .u32 (x.zero : Int), .int .u32 (x.iv : Int), .int .i64 x.last, .slice A2 n2 c2, .int .u32 (x.blk : Int), .int .i64 x.due, .int .i64 x.ttl, .bool x.fin] 95)) 95 11; simpa using h)
  have HSZ := Lib.hid (show w.heap.size + 2 = W2.heap.size by rw [hW2]; simp)
  rw [← hW2]
  clear hW2
  go_loopw [7, 8] (fun r i wr => ∃ k : Nat, k ≤ is.length ∧ i = .int .i64 k ∧ MixP inCs 11 InS.parts 95 wr P (w.heap.size + 1) r (dropO p (is.take k)) ∧ Below (w.heap.size + 1) W2 wr) (fun _ i _ => is.length - (intOf i).toNat)
  case atStart => exact ⟨0, Nat.zero_le _, rfl, ⟨[], by rw [List.take_zero]; cases p <;> rfl, by rw [List.take_zero, show dropO p [] = [] by cases p <;> rfl]; exact HN.out, fun _ _ _ _ h => by simp at h⟩, Below.refl _ _⟩
  case round =>
    obtain ⟨k, hk, rfl, hM, hbel⟩ := hrel
    have HBE := Lib.hid hbel
    have HBW := Lib.hid (show Below w.heap.size w wr from HA.out.trans (hbel.mono (Nat.le_succ _)))
    have hz : w.heap.size + 2 ≤ wr.heap.size := by rw [HSZ.out]; exact hbel.size
    have HM := Lib.hid hM
    obtain ⟨A8, c8, hf8⟩ := hM.form
    have hle := HLE.out
    have HLEN := Lib.hid (show (dropO p (is.take k)).length ≤ k by have := dropO_len p (is.take k); rw [List.length_take] at this; omega)
    by_cases hlt : k < is.length
    · have hek := List.getElem?_eq_getElem hlt
      by_cases hq : ((k : Int) != at1) = true
      · obtain ⟨b1, o1, cc, u1, hform, hBP, hcell, hpv⟩ := rowP_cells inCs_len (by omega) HV.out hek
        have hB := HPP.out _ hBP
        injection hform with hf1 _ hf3
        subst hf1 hf3
        have HT := Lib.hid (HNE.out k _ hek hq)
        generalize is[k] = y at *
        obtain ⟨ys, yd, ya, yz, yi, yl, yp, yb, ydu, yt, yf⟩ := y
        obtain ⟨A3, n3, c3, rfl⟩ : ∃ A n c, u1 = .slice A n c := by
          obtain ⟨_, _, ⟨A, c, h, _⟩, _⟩ := id hpv
          exact ⟨A, _, c, h⟩
        have HPV := Lib.hid (partsP_below hpv HBW.out HPP.out)
        have d0 : wr.cell? ⟨b1, o1 + k * 11, none⟩ = some (.int .u16 (ys : Int)) := (HBW.out.cell (p := ⟨b1, _, none⟩) hB).trans (hcell 0 _ rfl)
        have d1 : wr.cell? ⟨b1, o1 + k * 11 + 1, none⟩ = some (.int .u16 (yd : Int)) := (HBW.out.cell (p := ⟨b1, _, none⟩) hB).trans (hcell 1 _ rfl)
        have d2 : wr.cell? ⟨b1, o1 + k * 11 + 2, none⟩ = some (.bool ya) := (HBW.out.cell (p := ⟨b1, _, none⟩) hB).trans (hcell 2 _ rfl)
        have d3 : wr.cell? ⟨b1, o1 + k * 11 + 3, none⟩ = some (.int .u32 (yz : Int)) := (HBW.out.cell (p := ⟨b1, _, none⟩) hB).trans (hcell 3 _ rfl)
        have d4 : wr.cell? ⟨b1, o1 + k * 11 + 4, none⟩ = some (.int .u32 (yi : Int)) := (HBW.out.cell (p := ⟨b1, _, none⟩) hB).trans (hcell 4 _ rfl)
        have d5 : wr.cell? ⟨b1, o1 + k * 11 + 5, none⟩ = some (.int .i64 yl) := (HBW.out.cell (p := ⟨b1, _, none⟩) hB).trans (hcell 5 _ rfl)
        have d6 : wr.cell? ⟨b1, o1 + k * 11 + 6, none⟩ = some (.slice A3 n3 c3) := (HBW.out.cell (p := ⟨b1, _, none⟩) hB).trans (hcell 6 _ rfl)
        have d7 : wr.cell? ⟨b1, o1 + k * 11 + 7, none⟩ = some (.int .u32 (yb : Int)) := (HBW.out.cell (p := ⟨b1, _, none⟩) hB).trans (hcell 7 _ rfl)
        have d8 : wr.cell? ⟨b1, o1 + k * 11 + 8, none⟩ = some (.int .i64 ydu) := (HBW.out.cell (p := ⟨b1, _, none⟩) hB).trans (hcell 8 _ rfl)
        have d9 : wr.cell? ⟨b1, o1 + k * 11 + 9, none⟩ = some (.int .i64 yt) := (HBW.out.cell (p := ⟨b1, _, none⟩) hB).trans (hcell 9 _ rfl)
        have d10 : wr.cell? ⟨b1, o1 + k * 11 + 10, none⟩ = some (.bool yf) := (HBW.out.cell (p := ⟨b1, _, none⟩) hB).trans (hcell 10 _ rfl)
        have hbz : b1 < wr.heap.size := by omega
        obtain ⟨vs, hvl, hrow, hps⟩ := hM
        generalize hds : dropO p (is.take k) = ds at *
        have HVL := Lib.hid hvl
        have HROW := Lib.hid hrow
        have HPS := Lib.hid hps
        subst hf8
        clear hcell hpv hek hvl hrow hps hbel
        go_wp2_with (first
          | (at_builtin
             refine app_sl _ elIn rfl (.tmp 19) (.tmp 24) rfl rfl (HROW.out.alloc _) rfl (Sl.lit _ _ _ 1 rfl (by simp [maxLen])) ?_ ?_ ?_ ?_
             (case refine_1 => exact inCs_one (⟨ys, yd, ya, yz, yi, yl, yp, yb, ydu, yt, yf⟩ : InS) rfl)
             (case refine_2 => have := HLEN.out; have := HLE.out; omega)
             (case refine_3 => simp; omega)
             intro v9 w9 hown9 hg9 hnil9 hat9
             have HB9 := Lib.hid (show Below (w.heap.size + 1) W2 w9 from below_app (HBE.out.alloc (by omega) _) (HROW.out.alloc _) hg9 (Nat.le_refl _) (by simp; omega))
             have HM9 := Lib.hid (MixP.snoc HVL.out rfl (HROW.out.alloc _) (fun j o u ho hu => partsP_below (HPS.out j o u ho hu) (al1 _ _ |>.mono (by omega)) HPP.out) (partsP_below HPV.out (al1 _ _ |>.mono (by omega)) HPP.out) hown9 hg9 (fun b hb => Nat.lt_succ_of_lt (HPP.out b hb)) (by simp; omega))
             clear hown9 hg9 hnil9 hat9))
        go_roundw
        case rel => exact ⟨k + 1, by omega, by go_num, by rw [HT.out]; exact HM9.out, HB9.out⟩
        case measure => simp [intOf]; omega
      · have hq' : ((k : Int) != at1) = false := by simpa using hq
        have HT := Lib.hid (HEQ.out k hq')
        clear hq hM hbel hek
        go_wp2_with fail
        go_roundw
        case rel => exact ⟨k + 1, by omega, by go_num, by rw [HT.out]; exact HM.out, HBE.out⟩
        case measure => simp [intOf]; omega
    · have hke : k = is.length := by omega
      subst hke
      rw [List.take_length] at hM HM hf8 HLEN
      have a0 := (HBX.out.keep hbel (Nat.lt_succ_self _)).cell (j := 0) rfl
      have a1 := (HBX.out.keep hbel (Nat.lt_succ_self _)).cell (j := 1) rfl
      have a2 := (HBX.out.keep hbel (Nat.lt_succ_self _)).cell (j := 2) rfl
      have a3 := (HBX.out.keep hbel (Nat.lt_succ_self _)).cell (j := 3) rfl
      have a4 := (HBX.out.keep hbel (Nat.lt_succ_self _)).cell (j := 4) rfl
      have a5 := (HBX.out.keep hbel (Nat.lt_succ_self _)).cell (j := 5) rfl
      have a6 := (HBX.out.keep hbel (Nat.lt_succ_self _)).cell (j := 6) rfl
      have a7 := (HBX.out.keep hbel (Nat.lt_succ_self _)).cell (j := 7) rfl
      have a8 := (HBX.out.keep hbel (Nat.lt_succ_self _)).cell (j := 8) rfl
      have a9 := (HBX.out.keep hbel (Nat.lt_succ_self _)).cell (j := 9) rfl
      have a10 := (HBX.out.keep hbel (Nat.lt_succ_self _)).cell (j := 10) rfl
      have zb : w.heap.size < wr.heap.size := by omega
      obtain ⟨vs, hvl, hrow, hps⟩ := hM
      have hlen8 : (dropO p is).length ≤ 8 := by have := HLEN.out; omega
      generalize hds : dropO p is = ds at *
      have HVL := Lib.hid hvl
      have HROW := Lib.hid hrow
      have HPS := Lib.hid hps
      have HXW := Lib.hid (partsP_below HX.out HBW.out HPP.out)
      subst hf8
      generalize hJ : ds.length = J at *
      have HJ := Lib.hid hJ
      clear hvl hrow hps hbel hds hJ
      have hcase : J = 8 ∨ J ≤ 7 := by omega
      rcases hcase with h8 | h7
      · subst h8
        go_wp2_with (first
          | (at_builtin
             refine app_sl _ elIn rfl (.tmp 26) (.tmp 28) rfl rfl (HROW.out.alloc _) rfl (Sl.lit _ _ _ 1 rfl (by simp [maxLen])) ?_ ?_ ?_ ?_
             (case refine_1 => exact inCs_one x rfl)
             (case refine_2 => omega)
             (case refine_3 => simp; omega)
             intro v9 w9 hown9 hg9 hnil9 hat9
             have HB9 := Lib.hid (show Below (w.heap.size + 1) W2 w9 from below_app (HBE.out.alloc (by omega) _) (HROW.out.alloc _) hg9 (Nat.le_refl _) (by simp; omega))
             have HM9 := Lib.hid (MixP.snoc (HVL.out.trans HJ.out.symm) HJ.out.symm (HROW.out.alloc _) (fun j o u ho hu => partsP_below (HPS.out j o u ho hu) (al1 _ _ |>.mono (by omega)) HPP.out) (partsP_below HXW.out (al1 _ _ |>.mono (by omega)) HPP.out) hown9 hg9 (fun b hb => Nat.lt_succ_of_lt (HPP.out b hb)) (by simp; omega))
             obtain ⟨g9, c9, rfl, hg9a, hg9b⟩ := own_addr hown9 (by omega)
             have hc9 := (Sl.of_own hown9).cap
             clear hown9 hg9 hnil9 hat9))
        have HW9 := HA.out.trans (HB9.out.mono (Nat.le_succ _))
        have hr := HM9.out.toP (Q := NewB P w w9) (fun _ h => .inl h) (fun b h1 h2 => .inr ⟨by omega, h2⟩)
        have hl : (ds ++ [x]).length = 8 + 1 := by rw [List.length_append, HJ.out]; rfl
        have h1 := RowP.last inCs_len (k := 1) (by rw [hl]; exact hr) (by omega)
        rw [hl, if_neg (by omega)] at h1
        refine HOK.out _ _ HW9 ?_
        unfold keep8
        rw [hl]
        exact h1
      · have h7' : (J : Int) + 1 - 8 ≤ 0 := by omega
        go_wp2_with (first
          | (at_builtin
             refine app_sl _ elIn rfl (.tmp 26) (.tmp 28) rfl rfl (HROW.out.alloc _) rfl (Sl.lit _ _ _ 1 rfl (by simp [maxLen])) ?_ ?_ ?_ ?_
             (case refine_1 => exact inCs_one x rfl)
             (case refine_2 => omega)
             (case refine_3 => simp; omega)
             intro v9 w9 hown9 hg9 hnil9 hat9
             have HB9 := Lib.hid (show Below (w.heap.size + 1) W2 w9 from below_app (HBE.out.alloc (by omega) _) (HROW.out.alloc _) hg9 (Nat.le_refl _) (by simp; omega))
             have HM9 := Lib.hid (MixP.snoc (HVL.out.trans HJ.out.symm) HJ.out.symm (HROW.out.alloc _) (fun j o u ho hu => partsP_below (HPS.out j o u ho hu) (al1 _ _ |>.mono (by omega)) HPP.out) (partsP_below HXW.out (al1 _ _ |>.mono (by omega)) HPP.out) hown9 hg9 (fun b hb => Nat.lt_succ_of_lt (HPP.out b hb)) (by simp; omega))
             obtain ⟨g9, c9, rfl, hg9a, hg9b⟩ := own_addr hown9 (by omega)
             have hc9 := (Sl.of_own hown9).cap
             clear hown9 hg9 hnil9 hat9))
        have HW9 := HA.out.trans (HB9.out.mono (Nat.le_succ _))
        have hr := HM9.out.toP (Q := NewB P w w9) (fun _ h => .inl h) (fun b h1 h2 => .inr ⟨by omega, h2⟩)
        have hl : (ds ++ [x]).length = J + 1 := by rw [List.length_append, HJ.out]; rfl
        refine HOK.out _ _ HW9 ?_
        unfold keep8
        rw [hl, show J + 1 - 8 = 0 by omega, List.drop_zero]
        exact hr
end Go.Proofs.Ytkpjinkkjbljkaa
