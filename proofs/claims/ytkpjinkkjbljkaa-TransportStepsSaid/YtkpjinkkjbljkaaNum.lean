/- Walks of the reference of octets: Num, Value (for a seat that has no more of it). -/
import Derived.Test.YtkpjinkkjbljkaaOct3
namespace Go.Proofs.Ytkpjinkkjbljkaa
open Go.RowKit

theorem int_ext {k : IntKind} {a b : Int} (h : a = b) : Value.int k a = Value.int k b := by rw [h]

theorem le_step (x i : Nat) : x / 2 ^ (8 * i) / 256 = x / 2 ^ (8 * (i + 1)) := by
  rw [Nat.div_div_eq_div_mul, Nat.mul_add, Nat.pow_add]

set_option maxRecDepth 100000 in
set_option maxHeartbeats 400000 in
theorem num_any (n x : Nat) (w : World) (hn : n ≤ 1099511627776) (hx : x < 2 ^ 64) : Calls Try.prog 36 #[.int .i64 n, .int .u64 (x : Int)] w (BytesPost w (le n x)) := by
  have hx' : x ≤ 18446744073709551615 := by omega
  clear hx
  go_enter Try.func36, Try.ntmps36
  go_wp2_with fail
  go_loopw [1, 5, 6] (fun y v i wr => ∃ j : Nat, j ≤ n ∧ i = .int .i64 j ∧ y = .int .u64 ((x / 2 ^ (8 * j) : Nat) : Int) ∧ wr.ownsRow w.heap.size 5 1 v j (bys (le j x)) ∧ Below w.heap.size w wr) (fun _ _ i _ => n - (intOf i).toNat)
  case atStart => exact ⟨0, Nat.zero_le _, rfl, by simp, by simpa [le, bys] using World.ownsRow_lit (base := w.heap.size) (e := 5) (size := 1) w #[] 0 (Nat.le_refl _) (by simp [maxLen]) rfl, al1 _ _⟩
  case round =>
    obtain ⟨j, hj, rfl, rfl, hown, hbel⟩ := hrel
    obtain ⟨wo, rfl⟩ : ∃ wo : World, wo = wr := ⟨_, rfl⟩
    have HO := Lib.hid hown
    have HW := Lib.hid hbel
    clear hown hbel
    by_cases hlt : j < n
    · have hy : x / 2 ^ (8 * j) ≤ 18446744073709551615 := Nat.le_trans (Nat.div_le_self _ _) hx'
      generalize hyd : x / 2 ^ (8 * j) = y at *
      have HY := Lib.hid hyd
      clear hyd
      go_wp2_with (first
        | (at_builtin
           refine app_sl _ elB rfl (.tmp 13) (.tmp 17) rfl rfl (HO.out.alloc _) rfl (Sl.lit _ _ _ 1 rfl (by simp [maxLen])) ?_ ?_ ?_ ?_
           (case refine_1 => intro u hu; simp at hu; subst hu; rfl)
           (case refine_2 => omega)
           (case refine_3 => exact Nat.le_trans HW.out.size (by simp))
           intro v1 w1 hown1 hg1 hnil1 hat1))
      have hb1 : Below w.heap.size w w1 := below_app (HW.out.alloc HW.out.size _) (HO.out.alloc _) hg1 (Nat.le_refl _) (Nat.le_trans HW.out.size (by simp))
      have K1 := Lib.hid hown1
      have K5 := Lib.hid hb1
      clear hown1 hg1 hnil1 hat1 hb1
      go_wp2
      go_roundw
      case rel => exact ⟨j + 1, by omega, by go_num, by rw [← le_step, HY.out]; go_num, by
        have := K1.out
        rw [le_succ, HY.out, bys_append]
        simpa [bys] using this, K5.out⟩
      case measure => simp [intOf]; omega
    · obtain rfl : j = n := by omega
      go_wp2_with fail
      go_ret
      exact ⟨HW.out, _, rfl, by rw [le_length]; exact HO.out⟩

set_option maxHeartbeats 400000 in
theorem value_any (l : List UInt8) (A : Option Addr) (c : Nat) (w : World) (B : Nat) (hb : BS w B (.slice A l.length c) l) (hl : l.length ≤ 8) :
    Calls Try.prog 41 #[.slice A l.length c] w fun e w' => e = .returned (.int .u64 ((leVal l : Nat) : Int)) ∧ w = w' := by
  have HB := Lib.hid hb
  clear hb
  go_enter Try.func41, Try.ntmps41
  go_wp2_with fail
  go_loop [3, 4] (fun v i => ∃ (j : Nat) (i0 : Int), j ≤ l.length ∧ i = .int .i64 i0 ∧ i0 = (j : Int) - 1 ∧ v = .int .u64 ((leVal (l.drop j) : Nat) : Int)) (fun _ i => (intOf i + 1).toNat)
  case atStart => exact ⟨l.length, _, Nat.le_refl _, rfl, rfl, by simp [leVal]⟩
  case round =>
    obtain ⟨j, i0, hj, rfl, hi0, rfl⟩ := hrel
    rcases j with _ | j
    · obtain rfl : i0 = -1 := by omega
      clear hi0
      go_wp2_with fail
      go_ret
      exact ⟨rfl, rfl⟩
    · obtain rfl : i0 = (j : Int) := by omega
      clear hi0
      obtain ⟨b, off, rfl, hB, hcell⟩ := HB.out.cells (bys_at (show j < l.length by omega))
      have hc0 := hcell j _ (bys_at (by omega))
      clear hcell
      have hd : l.drop j = l[j] :: l.drop (j + 1) := List.drop_eq_getElem_cons (by omega)
      have hlt := leVal_lt (l.drop (j + 1))
      have hx := l[j].toNat_lt
      have hp : 2 ^ (8 * (l.drop (j + 1)).length) ≤ 2 ^ 56 := Nat.pow_le_pow_right (by omega) (by rw [List.length_drop]; omega)
      have he : leVal (l.drop j) = l[j].toNat + 256 * leVal (l.drop (j + 1)) := by rw [hd]; rfl
      generalize l[j] = x at *
      generalize hy : leVal (l.drop (j + 1)) = y at *
      have hy2 : y ≤ 72057594037927935 := by omega
      have hx2 : x.toNat ≤ 255 := by omega
      have HE := Lib.hid he
      clear hd hlt hx hp he hy
      go_wp2_with fail
      go_round
      case rel => exact ⟨j, _, by omega, rfl, rfl, int_ext (by rw [HE.out]; omega)⟩
      case measure => simp [intOf]

end Go.Proofs.Ytkpjinkkjbljkaa
