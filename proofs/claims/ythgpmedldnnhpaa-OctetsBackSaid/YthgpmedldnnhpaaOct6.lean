/- Walks of package octets: Hex. -/
import Derived.Test.YthgpmedldnnhpaaOct5
namespace Go.Proofs.Ythgpmedldnnhpaa
open Go.RowKit

/-- The digit of a number below 16. -/
def dig (n : Nat) : UInt8 := hexD.getD n 0
/-- The digits of bytes. -/
def hexS (l : List UInt8) : List UInt8 := l.flatMap fun b => [dig (b.toNat / 16), dig (b.toNat % 16)]
theorem hexS_length (l : List UInt8) : (hexS l).length = 2 * l.length := by
  induction l with
  | nil => rfl
  | cons b l ih => simp only [hexS, List.flatMap_cons, List.length_append, List.length_cons, List.length_nil] at *; omega
theorem hexS_take {l : List UInt8} {k : Nat} (hk : k < l.length) : hexS (l.take (k + 1)) = hexS (l.take k) ++ [dig (l[k].toNat / 16), dig (l[k].toNat % 16)] := by
  rw [List.take_succ_eq_append_getElem hk]
  unfold hexS
  rw [List.flatMap_append]
  rfl
theorem hexB_dig (n : Nat) (h : n < (ByteArray.mk #[48, 49, 50, 51, 52, 53, 54, 55, 56, 57, 97, 98, 99, 100, 101, 102]).size) :
    (ByteArray.mk #[48, 49, 50, 51, 52, 53, 54, 55, 56, 57, 97, 98, 99, 100, 101, 102])[n] = dig n := by
  have h' : n < hexD.length := h
  refine (hexB_at n h h').trans ?_
  simp [dig, List.getD, h']
theorem and15 (y : Nat) (h : y ≤ 255) : bits BinOp.and IntKind.u8 (y : Int) 15 = (y : Int) % 16 := by
  have e : (15 : Int) = ((15 : Nat) : Int) := rfl
  show IntKind.u8.wrap ((BitVec.ofInt 8 (y : Int) &&& BitVec.ofInt 8 (15 : Int)).toNat : Int) = _
  rw [e, BitVec.toNat_and, BitVec.ofInt_natCast, BitVec.ofInt_natCast, BitVec.toNat_ofNat, BitVec.toNat_ofNat, Nat.mod_eq_of_lt (by omega), Nat.mod_eq_of_lt (by omega), IntKind.wrap_u8]
  have h2 : y &&& 15 = y % 16 := Nat.and_two_pow_sub_one_eq_mod y 4
  rw [h2]
  omega

/-- What a call leaves that returns a string. -/
def StrPost (w : World) (l : List UInt8) (e : Ending) (w' : World) : Prop := Below w.heap.size w w' ∧ e = .returned (.string ⟨l.toArray⟩)

set_option maxRecDepth 100000 in
set_option maxHeartbeats 1000000 in
theorem hex_any (l : List UInt8) (A : Option Addr) (c : Nat) (w : World) (hb : BS w w.heap.size (.slice A l.length c) l) (hl : l.length ≤ 70368744177664) :
    Calls Try.prog 22 #[.slice A l.length c] w (StrPost w (hexS l)) := by
  have HA := Lib.hid hb
  clear hb
  obtain ⟨i0, hi, hz0, hz1, hz2⟩ := info_parts infoB
  go_enter Try.func22, Try.ntmps22
  go_wp2_with (first
    | (at_make
       refine wpList_make_own _ rfl _ (.tmp 8) _ rfl w.heap.size 5 i0 (.int .u8 0) 1 Try.underlying23 hi hz0 hz1 .i64 .i64 _ (2 * l.length) rfl rfl ?_ ?_ ?_ (Nat.le_refl _) ?_
       (case refine_1 => omega)
       (case refine_2 => rw [hz2]; omega)
       (case refine_3 => simp only [maxLen]; omega)
       intro w1 hown1 hg1))
  have hb1 : Below w.heap.size w w1 := (Below.refl _ _).grown hg1 (Nat.le_refl _) (fun _ h => by cases h)
  have K1 := Lib.hid hown1
  have K2 := Lib.hid hb1
  clear hown1 hg1 hb1
  go_wp2_with fail
  go_loopw [3, 12] (fun v i wr => ∃ j : Nat, j ≤ l.length ∧ i = .int .i64 j ∧ wr.ownsRow w.heap.size 5 1 v (2 * j) (bys (hexS (l.take j))) ∧ Below w.heap.size w wr) (fun _ i _ => l.length - (intOf i).toNat)
  case atStart => exact ⟨0, Nat.zero_le _, rfl, by simpa [hexS, bys] using K1.out, K2.out⟩
  case round =>
    obtain ⟨j, hj, rfl, hown, hbel⟩ := hrel
    obtain ⟨wo, rfl⟩ : ∃ wo : World, wo = wr := ⟨_, rfl⟩
    have HO := Lib.hid hown
    have HW := Lib.hid hbel
    clear hown hbel
    by_cases hlt : j < l.length
    · obtain ⟨b1, o1, rfl, hB1, hc1⟩ := (HA.out.below HW.out).cells (bys_at hlt)
      have d1 := hc1 j _ (bys_at hlt)
      have hx := l[j].toNat_lt
      generalize hxj : l[j].toNat = y at *
      have HX := Lib.hid hxj
      have hx255 : y ≤ 255 := by omega
      have g1 : (0 : Int) ≤ (y : Int) / 16 := by omega
      have g2 : (y : Int) / 16 < 16 := by omega
      have g3 : (0 : Int) ≤ (y : Int) % 16 := by omega
      have g4 : (y : Int) % 16 < 16 := by omega
      have g5 : ((y : Int) / 16).toNat = y / 16 := by omega
      have g6 : ((y : Int) % 16).toNat = y % 16 := by omega
      have g7 := and15 y hx255
      clear hc1 hxj hx
      go_wp2_with fail
      go_region_law (first
        | (refine step_sl _ elB rfl (.tmp 16) (.tmp 23) rfl rfl (own_drew (HO.out.alloc _)) rfl (Sl.drew (Sl.lit _ _ _ 2 rfl (by simp [maxLen]))) ?_ ?_ ?_ ?_
           (case refine_1 => intro u hu; simp at hu; rcases hu with rfl | rfl <;> rfl)
           (case refine_2 => omega)
           (case refine_3 => exact Nat.le_trans HW.out.size (by simp))
           intro v1 w1 hown1 hg1 hnil1 hat1))
      all_goals
        have hb1 : Below w.heap.size w w1 := below_app (HW.out.alloc HW.out.size _).drew (own_drew (HO.out.alloc _)) hg1 (Nat.le_refl _) (Nat.le_trans HW.out.size (by simp))
        rw [List.toList_toArray, hexB_dig, hexB_dig] at hown1
        have K1 := Lib.hid hown1
        have K5 := Lib.hid hb1
        clear hown1 hg1 hnil1 hat1 hb1
        go_wp2
        go_roundw
        case rel => exact ⟨j + 1, by omega, by go_num, by rw [hexS_take hlt, HX.out, bys_append]; exact K1.out, K5.out⟩
        case measure => simp [intOf]; omega
    · obtain rfl : j = l.length := by omega
      have hh := HO.out
      rw [List.take_length] at hh
      have hbs := BS.of_own (hexS_length l).symm hh
      have hcv := hbs.conv (P := Try.prog) (ts := 9) Try.underlying23 Try.underlying5 Try.underlying9
      clear hh hbs
      go_wp2
      go_ret
      exact ⟨HW.out, rfl⟩
end Go.Proofs.Ythgpmedldnnhpaa
