/- Walks of package transport: all, place. No condition. -/
import Derived.Test.YtkpjinkkjbljkaaTs7
namespace Go.Proofs.Ytkpjinkkjbljkaa
open Go.RowKit

theorem all_any (n : Nat) (hn : n ≤ 32) (w : World) : Calls Try.prog 47 #[.int .i64 (n : Int)] w fun e w' => e = .returned (.int .u32 ((2 ^ n - 1 : Nat) : Int)) ∧ w = w' := by
  go_enter Try.func47, Try.ntmps47
  go_wp2
  go_ret
  refine ⟨ret_int ?_, rfl⟩
  have h1 : 2 ^ n ≤ 4294967296 := Nat.pow_le_pow_right (n := 2) (by omega) hn
  have h2 : 1 ≤ 2 ^ n := Nat.one_le_two_pow
  have h3 : ((2 : Int) ^ n) = ((2 ^ n : Nat) : Int) := by push_cast; rfl
  rw [h3]
  omega

/-- Does a segment belong to a message? Which message is it? -/
def sameIn (src dst iv ze : Nat) (x : InS) : Bool := x.src == src && x.dst == dst && x.zero == ze && x.iv == iv
def otherIn (p : Low) (x : InS) : Bool := !(x.app == p.app) || !(x.last == p.last)
def placeR (is : List InS) (src dst iv ze : Nat) (p : Low) : Int × Bool :=
  match is.findIdx? (sameIn src dst iv ze) with
  | none => (-1, true)
  | some i => if otherIn p (is.getD i ⟨0, 0, false, 0, 0, 0, [], 0, 0, 0, false⟩) then (0, false) else ((i : Int), true)
theorem place_miss {is : List InS} {f : InS → Bool} {j : Nat} {x : InS} (h : (is.take j).findIdx? f = none) (hx : is[j]? = some x) (hf : f x = false) : (is.take (j + 1)).findIdx? f = none := by
  obtain ⟨hi, rfl⟩ := List.getElem?_eq_some_iff.1 hx
  rw [List.take_succ_eq_append_getElem hi, List.findIdx?_append, h]
  simp [List.findIdx?_cons, hf]
theorem place_hit {is : List InS} {f : InS → Bool} {j : Nat} {x : InS} (h : (is.take j).findIdx? f = none) (hx : is[j]? = some x) (hf : f x = true) : is.findIdx? f = some j := by
  obtain ⟨hi, rfl⟩ := List.getElem?_eq_some_iff.1 hx
  have h1 : is = is.take j ++ is[j] :: is.drop (j + 1) := by rw [← List.drop_eq_getElem_cons hi, List.take_append_drop]
  have h2 : is.findIdx? f = (is.take j ++ is[j] :: is.drop (j + 1)).findIdx? f := congrArg _ h1
  rw [h2, List.findIdx?_append, h, Option.none_or, List.findIdx?_cons, hf]
  simp
  omega
/-- The cells of a message that arrives. -/
theorem in_cells {w : World} {B : Nat} {v : Value} {is : List InS} (h : RowV inCs 11 InS.parts w B v is) {i : Nat} {x : InS} (hi : is[i]? = some x) : ∃ (b o c : Nat) (u : Value), v = .slice (some ⟨b, o, none⟩) is.length c ∧ b < B ∧ (∀ (j : Nat) (y : Value), (inCs x u)[j]? = some y → w.cell? ⟨b, o + i * 11 + j, none⟩ = some y) ∧ PartsV w B u x.parts := by
  obtain ⟨vs, h1, h2, h3⟩ := h
  have hiv : i < vs.length := by have := (List.getElem?_eq_some_iff.1 hi).1; omega
  have hv := List.getElem?_eq_getElem hiv
  have hp := h3 i x vs[i] hi hv
  have c0 := flat2_at inCs_len is vs i x vs[i] 0 h1 hi hv (by omega)
  obtain ⟨A, c, rfl, _⟩ := id h2
  obtain ⟨b, o, rfl, hB, hc⟩ := h2.cells c0
  refine ⟨b, o, c, vs[i], rfl, hB, fun j y hy => ?_, hp⟩
  have hj : j < 11 := (List.getElem?_eq_some_iff.1 hy).1
  have cj := flat2_at inCs_len is vs i x vs[i] j h1 hi hv hj
  rw [Nat.add_assoc]
  exact hc _ _ (cj.trans hy)

set_option maxRecDepth 100000 in
set_option maxHeartbeats 4000000 in
theorem place_any (is : List InS) (src dst iv ze : Nat) (p : Low) (v u : Value) (A : Option Addr) (n c : Nat) (w : World) (hv : ∃ A' n' c', v = .slice A' n' c') (hu : RowV inCs 11 InS.parts w w.heap.size u is) (hle : is.length ≤ 65536) :
    Calls Try.prog 45 #[.agg #[v, u], .int .u16 (src : Int), .int .u16 (dst : Int), .int .u32 (iv : Int), .int .u32 (ze : Int), lowV p (.slice A n c)] w fun e w' => e = .returned (.tuple #[.int .i64 (placeR is src dst iv ze p).1, .bool (placeR is src dst iv ze p).2]) ∧ Below w.heap.size w w' := by
  obtain ⟨A', n', c', rfl⟩ := hv
  obtain ⟨A2, c2, rfl⟩ := rowV_form hu
  have HU := Lib.hid hu
  have HLE := Lib.hid hle
  have HP := Lib.hid (show placeR is src dst iv ze p = (match is.findIdx? (sameIn src dst iv ze) with
  | none => (-1, true)
  | some i => if otherIn p (is.getD i ⟨0, 0, false, 0, 0, 0, [], 0, 0, 0, false⟩) then (0, false) else ((i : Int), true)) from rfl)
  generalize placeR is src dst iv ze p = R at *
  have HOT := Lib.hid (show ∀ x, otherIn p x = (!(x.app == p.app) || !(x.last == p.last)) from fun _ => rfl)
  generalize otherIn p = ot at *
  obtain ⟨ct, s, a, z, ix, l, o, b, f⟩ := p
  clear hu hle
  go_enter Try.func45, Try.ntmps45
  go_wp2_with fail
  go_step3
  go_wp2_with fail
  go_step3
  go_wp2_with fail
  go_loopw [14, 15, 16, 20] (fun t14 _ _ i wr => ∃ j : Nat, j ≤ is.length ∧ i = .int .i64 j ∧ t14 = .int .i64 (-1) ∧ (is.take j).findIdx? (sameIn src dst iv ze) = none ∧ Below w.heap.size w wr ∧ Box wr (w.heap.size + 1) [.bool ct, .bool s, .bool a,   .int .i64 z, .int .i64 ix, .int .i64 l, .int .i64 o, .int .u32 (b : Int), .bool f, .slice A n c]) (fun _ _ _ i _ => is.length - (intOf i).toNat)
  case atStart => exact ⟨0, Nat.zero_le _, rfl, rfl, rfl, al2 _ _ _, ⟨25, by rw [heap_al, if_pos (by simp)]⟩⟩
  case round =>
    obtain ⟨j, hj, rfl, rfl, hno, hbel, hbx⟩ := hrel
    have HNO := Lib.hid hno
    have HBE := Lib.hid hbel
    have HBX := Lib.hid hbx
    have hle := HLE.out
    by_cases hlt : j < is.length
    · have hej := List.getElem?_eq_getElem hlt
      obtain ⟨b1, o1, c1, u1, hform, hB, hcell, hpv⟩ := in_cells (HU.out.below hbel) hej
      injection hform with hf1 _ hf3
      subst hf1 hf3
      have HMISS := Lib.hid (fun hf => place_miss (f := sameIn src dst iv ze) hno hej hf)
      have HHIT := Lib.hid (fun hf => place_hit (f := sameIn src dst iv ze) hno hej hf)
      have HGD := Lib.hid (show is.getD j ⟨0, 0, false, 0, 0, 0, [], 0, 0, 0, false⟩ = is[j] by rw [List.getD_eq_getElem?_getD, hej]; rfl)
      obtain ⟨A5, n5, c5, rfl⟩ := partsV_form hpv
      generalize is[j] = x at *
      obtain ⟨xs, xd, xa, xz, xi, xl, xp, xb, xdu, xt, xf⟩ := x
      have d0 : wr.cell? ⟨b1, o1 + j * 11, none⟩ = some (.int .u16 (xs : Int)) := hcell 0 _ rfl
      have d1 : wr.cell? ⟨b1, o1 + j * 11 + 1, none⟩ = some (.int .u16 (xd : Int)) := hcell 1 _ rfl
      have d2 : wr.cell? ⟨b1, o1 + j * 11 + 2, none⟩ = some (.bool xa) := hcell 2 _ rfl
      have d3 : wr.cell? ⟨b1, o1 + j * 11 + 3, none⟩ = some (.int .u32 (xz : Int)) := hcell 3 _ rfl
      have d4 : wr.cell? ⟨b1, o1 + j * 11 + 4, none⟩ = some (.int .u32 (xi : Int)) := hcell 4 _ rfl
      have d5 : wr.cell? ⟨b1, o1 + j * 11 + 5, none⟩ = some (.int .i64 xl) := hcell 5 _ rfl
      have d6 : wr.cell? ⟨b1, o1 + j * 11 + 6, none⟩ = some (.slice A5 n5 c5) := hcell 6 _ rfl
      have d7 : wr.cell? ⟨b1, o1 + j * 11 + 7, none⟩ = some (.int .u32 (xb : Int)) := hcell 7 _ rfl
      have d8 : wr.cell? ⟨b1, o1 + j * 11 + 8, none⟩ = some (.int .i64 xdu) := hcell 8 _ rfl
      have d9 : wr.cell? ⟨b1, o1 + j * 11 + 9, none⟩ = some (.int .i64 xt) := hcell 9 _ rfl
      have d10 : wr.cell? ⟨b1, o1 + j * 11 + 10, none⟩ = some (.bool xf) := hcell 10 _ rfl
      have hbz : b1 < wr.heap.size := Nat.lt_of_lt_of_le hB hbel.size
      have q2 := hbx.cell (j := 2) rfl
      have q5 := hbx.cell (j := 5) rfl
      have hz2 := hbx.lt
      clear hno hbel hbx hcell hpv hej
      by_cases e1 : xs = src
      · subst e1
        by_cases e2 : xd = dst
        · subst e2
          by_cases e3 : xz = ze
          · subst e3
            by_cases e4 : xi = iv
            · subst e4
              have HF := Lib.hid (HHIT.out (by simp [sameIn]))
              clear HMISS HHIT
              have hR := HP.out
              rw [HF.out] at hR
              dsimp only at hR
              rw [HGD.out, HOT.out] at hR
              dsimp only at hR
              by_cases ea : xa = a
              · subst ea
                by_cases el : xl = l
                · subst el
                  simp only [beq_self_eq_true, Bool.not_true, Bool.or_self, Bool.false_eq_true, if_false] at hR
                  have HR := Lib.hid hR
                  clear hR HP
                  go_wp2_with fail
                  go_ret2
                  exact ⟨by rw [HR.out]; rfl, HBE.out.alloc HBE.out.size _⟩
                · have hl1 : (xl != l) = true := by simpa using el
                  have hl2 : (!(xl == l)) = true := by simpa using el
                  rw [hl2] at hR
                  simp only [beq_self_eq_true, Bool.not_true, Bool.or_true, if_true] at hR
                  have HR := Lib.hid hR
                  clear hR HP hl2 el
                  go_wp2_with fail
                  go_ret2
                  exact ⟨by rw [HR.out]; rfl, HBE.out.alloc HBE.out.size _⟩
              · have ha2 : (!(xa == a)) = true := by simpa using ea
                have ha1 : (xa != a) = true := by simpa using ea
                rw [ha2] at hR
                simp only [Bool.true_or, if_true] at hR
                have HR := Lib.hid hR
                clear hR HP ha2
                go_wp2_with fail
                go_ret2
                exact ⟨by rw [HR.out]; rfl, HBE.out.alloc HBE.out.size _⟩
            · have hne : ((xi : Int) != (iv : Int)) = true := by simp; omega
              have HM := Lib.hid (HMISS.out (by simp [sameIn, e4]))
              clear HMISS HHIT e4
              go_wp2_with fail
              go_roundw
              case rel => exact ⟨j + 1, by omega, by go_num, rfl, HM.out, HBE.out.alloc HBE.out.size _, HBX.out.alloc _⟩
              case measure => simp [intOf]; omega
          · have hne : ((xz : Int) != (ze : Int)) = true := by simp; omega
            have HM := Lib.hid (HMISS.out (by simp [sameIn, e3]))
            clear HMISS HHIT e3
            go_wp2_with fail
            go_roundw
            case rel => exact ⟨j + 1, by omega, by go_num, rfl, HM.out, HBE.out.alloc HBE.out.size _, HBX.out.alloc _⟩
            case measure => simp [intOf]; omega
        · have hne : ((xd : Int) != (dst : Int)) = true := by simp; omega
          have HM := Lib.hid (HMISS.out (by simp [sameIn, e2]))
          clear HMISS HHIT e2
          go_wp2_with fail
          go_roundw
          case rel => exact ⟨j + 1, by omega, by go_num, rfl, HM.out, HBE.out.alloc HBE.out.size _, HBX.out.alloc _⟩
          case measure => simp [intOf]; omega
      · have hne : ((xs : Int) != (src : Int)) = true := by simp; omega
        have HM := Lib.hid (HMISS.out (by simp [sameIn, e1]))
        clear HMISS HHIT e1
        go_wp2_with fail
        go_roundw
        case rel => exact ⟨j + 1, by omega, by go_num, rfl, HM.out, HBE.out.alloc HBE.out.size _, HBX.out.alloc _⟩
        case measure => simp [intOf]; omega
    · have hje : j = is.length := by omega
      subst hje
      rw [List.take_length] at *
      have hR := HP.out
      rw [hno] at hR
      dsimp only at hR
      have HR := Lib.hid hR
      clear hno hR HP HU
      go_wp2_with fail
      rw [Exit.noGoto_ret]
      go_ret2
      exact ⟨by rw [HR.out]; rfl, HBE.out⟩
end Go.Proofs.Ytkpjinkkjbljkaa
