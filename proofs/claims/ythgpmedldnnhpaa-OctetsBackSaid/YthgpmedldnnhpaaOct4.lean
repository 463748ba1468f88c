/- Walks of package octets: Xor. -/
import Derived.Test.YthgpmedldnnhpaaOct3
import Derived.RegionTactic
import Derived.BigRegion
import Derived.Laws.BitsAllLaws
namespace Go.Proofs.Ythgpmedldnnhpaa
open Go.RowKit

/-- The exclusive or of the first bytes, as many as the shorter list has. -/
def xorS (l k : List UInt8) : List UInt8 := List.zipWith (· ^^^ ·) l k
theorem xorS_length (l k : List UInt8) : (xorS l k).length = min l.length k.length := by simp [xorS]
theorem infoB : (Try.prog.info? 5).map (fun i => (i.zero, i.size, i.bytes)) = some (some (.int .u8 0), 1, 1) := by kernel_rfl

/-- The row while it is filled: j bytes, and zeros. -/
def fillS (r : List UInt8) (n j : Nat) : List UInt8 := r.take j ++ List.replicate (n - j) 0
theorem fill_length {r : List UInt8} {n j : Nat} : (fillS r n j).length = min j r.length + (n - j) := by simp [fillS]
theorem fill_zero (r : List UInt8) (n : Nat) : bys (fillS r n 0) = (madeCells #[Value.int .u8 0] n).toList := by
  rw [toList_madeCells_one]; simp [fillS, bys]
theorem fill_set {r : List UInt8} {n j : Nat} {x : UInt8} (hr : j < r.length) (hj : j < n) (hx : r[j] = x) : (bys (fillS r n j)).set j (.int .u8 (x.toNat : Int)) = bys (fillS r n (j + 1)) := by
  subst hx
  have e : (fillS r n j).set j r[j] = fillS r n (j + 1) := by
    unfold fillS
    have hl : (r.take j).length = j := by rw [List.length_take]; omega
    rw [List.set_append, if_neg (by omega), hl, Nat.sub_self]
    obtain ⟨m, hm⟩ : ∃ m, n - j = m + 1 := ⟨n - j - 1, by omega⟩
    rw [hm, List.replicate_succ, List.set_cons_zero, List.take_succ_eq_append_getElem hr, List.append_assoc]
    have : n - (j + 1) = m := by omega
    rw [this]; rfl
  rw [← e]
  unfold bys
  rw [List.map_set]
theorem fill_full {r : List UInt8} {n : Nat} (h : r.length = n) : fillS r n n = r := by subst h; simp [fillS]
theorem xor_u8 (x y : UInt8) : bits BinOp.xor IntKind.u8 (x.toNat : Int) (y.toNat : Int) = ((x ^^^ y).toNat : Int) := by
  have hx := x.toNat_lt
  have hy := y.toNat_lt
  show IntKind.u8.wrap ((BitVec.ofInt 8 (x.toNat : Int) ^^^ BitVec.ofInt 8 (y.toNat : Int)).toNat : Int) = _
  rw [BitVec.toNat_xor, BitVec.ofInt_natCast, BitVec.ofInt_natCast, BitVec.toNat_ofNat, BitVec.toNat_ofNat, Nat.mod_eq_of_lt (by omega), Nat.mod_eq_of_lt (by omega), IntKind.wrap_u8, UInt8.toNat_xor]
  have h2 := (x ^^^ y).toNat_lt
  rw [UInt8.toNat_xor] at h2
  omega

set_option maxRecDepth 100000 in
set_option maxHeartbeats 1000000 in
theorem xor_any (l k : List UInt8) (A : Option Addr) (c : Nat) (A' : Option Addr) (c' : Nat) (w : World) (ha : BS w w.heap.size (.slice A l.length c) l) (hb : BS w w.heap.size (.slice A' k.length c') k) (hl : l.length ≤ 140737488355328) (hk : k.length ≤ 140737488355328) :
    Calls Try.prog 18 #[.slice A l.length c, .slice A' k.length c'] w (BytesPost w (xorS l k)) := by
  have HA := Lib.hid ha
  have HB := Lib.hid hb
  clear ha hb
  obtain ⟨i0, hi, hz0, hz1, hz2⟩ := info_parts infoB
  by_cases hle : l.length ≤ k.length
  · go_enter Try.func18, Try.ntmps18
    go_wp2_with (first
      | (at_make
         refine wpList_make_full _ rfl (.tmp 11) (.tmp 11) _ rfl w.heap.size 5 i0 (.int .u8 0) 1 Try.underlying23 hi hz0 hz1 .i64 .i64 _ _ l.length rfl rfl rfl rfl ?_ ?_ (Nat.le_refl _) ?_
         (case refine_1 => rw [hz2]; omega)
         (case refine_2 => simp only [maxLen]; omega)
         intro w1 hown1 hg1))
    have hb1 : Below w.heap.size w w1 := (Below.refl _ _).grown hg1 (Nat.le_refl _) (fun _ h => by cases h)
    have hown2 : w1.ownsRow w.heap.size 5 1 (.slice (some ⟨w.heap.size, 0, none⟩) l.length l.length) l.length (bys (fillS (xorS l k) l.length 0)) := by
      rw [fill_zero]; rw [Nat.mul_one] at hown1; exact hown1
    have K1 := Lib.hid hown2
    have K2 := Lib.hid hb1
    clear hown1 hg1 hown2 hb1
    go_wp2_with fail
    go_loopw [15] (fun i wr => ∃ j : Nat, j ≤ l.length ∧ i = .int .i64 j ∧ wr.ownsRow w.heap.size 5 1 (.slice (some ⟨w.heap.size, 0, none⟩) l.length l.length) l.length (bys (fillS (xorS l k) l.length j)) ∧ Below w.heap.size w wr) (fun i _ => l.length - (intOf i).toNat)
    case atStart => exact ⟨0, Nat.zero_le _, rfl, K1.out, K2.out⟩
    case round =>
      obtain ⟨j, hj, rfl, hown, hbel⟩ := hrel
      obtain ⟨wo, rfl⟩ : ∃ wo : World, wo = wr := ⟨_, rfl⟩
      have HO := Lib.hid hown
      have HW := Lib.hid hbel
      clear hown hbel
      by_cases hlt : j < l.length
      · obtain ⟨b1, o1, rfl, hB1, hc1⟩ := (HA.out.below HW.out).cells (bys_at (show j < l.length by omega))
        obtain ⟨b2, o2, rfl, hB2, hc2⟩ := (HB.out.below HW.out).cells (bys_at (show j < k.length by omega))
        have d1 := hc1 j _ (bys_at (by omega))
        have d2 := hc2 j _ (bys_at (by omega))
        have d3 := HO.out.cellAt j (by omega)
        have hfl : j < (fillS (xorS l k) l.length j).length := by rw [fill_length, xorS_length]; omega
        rw [bys_at hfl] at d3
        have d4 := HO.out.frozenAt j
        have hst := HO.out.stored j (.int .u8 ((l[j] ^^^ k[j]).toNat : Int))
        rw [fill_set (by rw [xorS_length]; omega) hlt (by simp [xorS])] at hst
        rw [← xor_u8] at hst
        generalize l[j] = x at *
        generalize k[j] = y at *
        generalize (fillS (xorS l k) l.length j)[j] = z at *
        have hlt1 : w.heap.size < wo.heap.size := (HO.out.lt w.heap.size rfl).2
        have HST := Lib.hid hst
        clear hst hc1 hc2
        go_wp2_with fail
        go_region
        go_wp2
        go_roundw
        case rel => exact ⟨j + 1, by omega, by go_num, HST.out.1, (HW.out.setCell (Nat.le_refl _) _).drew⟩
        case measure => simp [intOf]; omega
      · obtain rfl : j = l.length := by omega
        go_wp2_with fail
        go_ret
        have hxl : (xorS l k).length = l.length := by rw [xorS_length]; omega
        have h := HO.out
        rw [fill_full hxl] at h
        exact ⟨HW.out, _, rfl, by rw [hxl]; exact h⟩
  · have hle' : k.length < l.length := by omega
    go_enter Try.func18, Try.ntmps18
    go_wp2_with (first
      | (at_make
         refine wpList_make_full _ rfl (.tmp 11) (.tmp 11) _ rfl w.heap.size 5 i0 (.int .u8 0) 1 Try.underlying23 hi hz0 hz1 .i64 .i64 _ _ k.length rfl rfl rfl rfl ?_ ?_ (Nat.le_refl _) ?_
         (case refine_1 => rw [hz2]; omega)
         (case refine_2 => simp only [maxLen]; omega)
         intro w1 hown1 hg1))
    have hb1 : Below w.heap.size w w1 := (Below.refl _ _).grown hg1 (Nat.le_refl _) (fun _ h => by cases h)
    have hown2 : w1.ownsRow w.heap.size 5 1 (.slice (some ⟨w.heap.size, 0, none⟩) k.length k.length) k.length (bys (fillS (xorS l k) k.length 0)) := by
      rw [fill_zero]; rw [Nat.mul_one] at hown1; exact hown1
    have K1 := Lib.hid hown2
    have K2 := Lib.hid hb1
    clear hown1 hg1 hown2 hb1
    go_wp2_with fail
    go_loopw [15] (fun i wr => ∃ j : Nat, j ≤ k.length ∧ i = .int .i64 j ∧ wr.ownsRow w.heap.size 5 1 (.slice (some ⟨w.heap.size, 0, none⟩) k.length k.length) k.length (bys (fillS (xorS l k) k.length j)) ∧ Below w.heap.size w wr) (fun i _ => k.length - (intOf i).toNat)
    case atStart => exact ⟨0, Nat.zero_le _, rfl, K1.out, K2.out⟩
    case round =>
      obtain ⟨j, hj, rfl, hown, hbel⟩ := hrel
      obtain ⟨wo, rfl⟩ : ∃ wo : World, wo = wr := ⟨_, rfl⟩
      have HO := Lib.hid hown
      have HW := Lib.hid hbel
      clear hown hbel
      by_cases hlt : j < k.length
      · obtain ⟨b1, o1, rfl, hB1, hc1⟩ := (HA.out.below HW.out).cells (bys_at (show j < l.length by omega))
        obtain ⟨b2, o2, rfl, hB2, hc2⟩ := (HB.out.below HW.out).cells (bys_at (show j < k.length by omega))
        have d1 := hc1 j _ (bys_at (by omega))
        have d2 := hc2 j _ (bys_at (by omega))
        have d3 := HO.out.cellAt j (by omega)
        have hfl : j < (fillS (xorS l k) k.length j).length := by rw [fill_length, xorS_length]; omega
        rw [bys_at hfl] at d3
        have d4 := HO.out.frozenAt j
        have hst := HO.out.stored j (.int .u8 ((l[j] ^^^ k[j]).toNat : Int))
        rw [fill_set (by rw [xorS_length]; omega) hlt (by simp [xorS])] at hst
        rw [← xor_u8] at hst
        generalize l[j] = x at *
        generalize k[j] = y at *
        generalize (fillS (xorS l k) k.length j)[j] = z at *
        have hlt1 : w.heap.size < wo.heap.size := (HO.out.lt w.heap.size rfl).2
        have HST := Lib.hid hst
        clear hst hc1 hc2
        go_wp2_with fail
        go_region
        go_wp2
        go_roundw
        case rel => exact ⟨j + 1, by omega, by go_num, HST.out.1, (HW.out.setCell (Nat.le_refl _) _).drew⟩
        case measure => simp [intOf]; omega
      · obtain rfl : j = k.length := by omega
        go_wp2_with fail
        go_ret
        have hxl : (xorS l k).length = k.length := by rw [xorS_length]; omega
        have h := HO.out
        rw [fill_full hxl] at h
        exact ⟨HW.out, _, rfl, by rw [hxl]; exact h⟩
end Go.Proofs.Ythgpmedldnnhpaa
