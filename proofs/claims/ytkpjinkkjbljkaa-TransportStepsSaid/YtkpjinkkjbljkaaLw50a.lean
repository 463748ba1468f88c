/- The walk of lives of layer 50: the document's examples hold. No condition. -/
import Derived.Test.YtkpjinkkjbljkaaTs7
import Derived.Test.YtkpjinkkjbljkaaTr12
import Derived.Test.YtkpjinkkjbljkaaTr6
namespace Go.Proofs.Ytkpjinkkjbljkaa
open Go.RowKit

def lowA : Low := ⟨false, false, true, 0, 0, 0, 0, 0, false⟩
def bytA : List UInt8 := [1, 2]
def bytD : List UInt8 := [0, 2, 33, 5, 0, 0, 0]
def accX : AccS := ⟨1, 2, false, 0, 1, 0, 8193⟩
def bytX : List UInt8 := List.replicate 16 0
theorem exA1 : chkL lowA bytA.length = 0 := by decide
theorem exA2 : encL lowA bytA = [64, 1, 2] := by decide
theorem exD1 : ldE true bytD = 0 := by decide
theorem exD2 : ldL true bytD = ⟨true, false, false, 258, 0, 0, 0, 5, true⟩ := by decide
theorem exX1 : refuseN [] accX bytX.length = 0 := by decide
theorem exX2 : sendO [] accX bytX 3 = [mOut accX bytX 3] := by unfold sendO; rw [exX1, if_pos ⟨rfl, by decide⟩]; rfl
theorem exX3 : sendL [] accX bytX 3 = segs accX bytX 3 2 := by unfold sendL; rw [exX1, if_neg (by decide), if_neg (by decide)]; rfl

set_option maxRecDepth 100000 in
set_option maxHeartbeats 4000000 in
theorem lives_any (w : World) : Calls Try.prog 10 #[] w fun e w' => e = .returned (.bool true) ∧ Below w.heap.size w w' := by
  obtain ⟨curZ, hz1, hz2⟩ : ∃ curZ : Array Value, curZ.toList = bys bytX ∧ curZ = madeCells #[.int .u8 0] 16 := ⟨_, by rw [toList_madeCells_one]; rfl, rfl⟩
  have mk : ∀ W : World, (Instr.makeSlice 23 (.int .i64 16) (.int .i64 16)).run Try.prog W = .ok (.slice (some ⟨W.heap.size, 0, none⟩) 16 16) (W.alloc (.cells curZ 5)) := by
    rw [hz2]
    exact make_full (P := Try.prog) (t := 23) (e := 5) (z := .int .u8 0) Try.underlying23 rfl rfl 16 (by show 1 * 16 ≤ _; omega) (by simp only [maxLen]; omega)
  have HZ := Lib.hid hz1
  clear hz1 hz2
  go_enter Try.func10, Try.ntmps10
  go_wp2_with fail
  have hl1 : BS (w.alloc (.cells #[.int .u8 1, .int .u8 2] 5)) (w.alloc (.cells #[.int .u8 1, .int .u8 2] 5)).heap.size (.slice (some ⟨w.heap.size, 0, none⟩) 2 2) bytA := (Sl.lit (size := 1) w #[.int .u8 1, .int .u8 2] 5 2 rfl (by simp [maxLen])).more (by simp)
  refine (tencode_any lowA (by decide) bytA _ _ hl1).mono ?_
  rintro e w1 ⟨hb1, hok, _⟩
  obtain ⟨v1, rfl, hv1⟩ := hok exA1
  rw [exA2] at hv1
  have HB1 := Lib.hid (one hb1)
  have HV1 := Lib.hid (BS.of_own (l := [64, 1, 2]) rfl hv1)
  obtain ⟨A1, c1, rfl⟩ := own_form hv1
  clear hb1 hok hv1 hl1
  go_wp2_with fail
  have hl2 : BS (w1.alloc (.cells #[.int .u8 0, .int .u8 2, .int .u8 33, .int .u8 5, .int .u8 0, .int .u8 0, .int .u8 0] 5)) (w1.alloc (.cells #[.int .u8 0, .int .u8 2, .int .u8 33, .int .u8 5, .int .u8 0, .int .u8 0, .int .u8 0] 5)).heap.size (.slice (some ⟨w1.heap.size, 0, none⟩) 7 7) bytD := (Sl.lit (size := 1) w1 #[.int .u8 0, .int .u8 2, .int .u8 33, .int .u8 5, .int .u8 0, .int .u8 0, .int .u8 0] 5 7 rfl (by simp [maxLen])).more (by simp)
  refine (tdecode_any true bytD (by decide) _ _ hl2).mono ?_
  rintro e w2 ⟨hb2, A2, c2, rfl, hv2⟩
  rw [exD1, exD2]
  obtain ⟨n2, hn2⟩ : ∃ n2, n2 = (ldB true bytD).length := ⟨_, rfl⟩
  rw [← hn2]
  have HB2 := Lib.hid (bthen HB1.out (one hb2))
  have HV2 := Lib.hid (HV1.out.on (one hb2))
  clear hb2 hv2 hn2 hl2 HB1 HV1
  go_wp2_with fail
  have hx3 : BS ((w2.alloc (.cells #[.bool true, .bool false, .bool false, .int .i64 258, .int .i64 0, .int .i64 0, .int .i64 0, .int .u32 5, .bool true, .slice A2 n2 c2] 25)).alloc (.cells curZ 5)) ((w2.alloc (.cells #[.bool true, .bool false, .bool false, .int .i64 258, .int .i64 0, .int .i64 0, .int .i64 0, .int .u32 5, .bool true, .slice A2 n2 c2] 25)).alloc (.cells curZ 5)).heap.size (.slice (some ⟨w2.heap.size + 1, 0, none⟩) 16 16) bytX := by
    have h := Sl.lit (size := 1) (w2.alloc (.cells #[.bool true, .bool false, .bool false, .int .i64 258, .int .i64 0, .int .i64 0, .int .i64 0, .int .u32 5, .bool true, .slice A2 n2 c2] 25)) curZ 5 16 (by rw [← Array.length_toList, HZ.out]; rfl) (by simp [maxLen])
    rw [HZ.out, show (w2.alloc (.cells #[.bool true, .bool false, .bool false, .int .i64 258, .int .i64 0, .int .i64 0, .int .i64 0, .int .u32 5, .bool true, .slice A2 n2 c2] 25)).heap.size = w2.heap.size + 1 by simp] at h
    exact h.more (by simp)
  refine (send_any [] [] accX bytX 3 (by decide) (by decide) (by decide) (by decide) _ _ _ _ (RowV.nil _ _) (RowV.nil _ _) hx3 ⟨by simp, fun _ h => by simp at h⟩ ⟨by simp, fun _ h => by simp at h⟩).mono ?_
  rintro e w5 ⟨hb5, v, u, x, rfl, hO, hI, hL⟩
  replace hO := hO.weak
  replace hI := hI.weak
  replace hL := lows_weak hL
  rw [exX2] at hO
  rw [exX3] at hL
  rw [exX1]
  obtain ⟨vs, _, hs, _⟩ := hO
  have hm := (flat2_at outCs_len [mOut accX bytX 3] vs 0 _ _ 7 (by assumption) rfl (List.getElem?_eq_getElem (by simp_all)) (by omega))
  obtain ⟨b7, o7, c7, rfl, hb7, hn7, hc7, d7⟩ := hs.at_ (k := 7) (u := .int .i64 23) hm
  obtain ⟨vs', _, hs', _⟩ := hL
  have hm' := (flat2_at lowF_len (segs accX bytX 3 2) vs' 1 _ _ 3 (by assumption) rfl (List.getElem?_eq_getElem (by simp_all [segs_len])) (by omega))
  rw [segs_len] at hs'
  obtain ⟨b8, o8, c8, rfl, hb8, hn8, hc8, d8⟩ := hs'.at_ (k := 13) (u := .int .i64 1) hm'
  obtain ⟨A9, c9, rfl⟩ := rowV_form hI
  have hB3 := Box.new w2 #[.bool true, .bool false, .bool false, .int .i64 258, .int .i64 0, .int .i64 0, .int .i64 0, .int .u32 5, .bool true, .slice A2 n2 c2] 25
  have hB5 := (hB3.alloc (.cells curZ 5)).on hb5
  have e3 := hB5.cell (j := 3) rfl
  have e7 := hB5.cell (j := 7) rfl
  have e8 := hB5.cell (j := 8) rfl
  have z3 := hB5.lt
  have HB5 := Lib.hid (bthen HB2.out (two hb5))
  have HV5 := Lib.hid (HV2.out.on (two hb5))
  clear hb5 hI hs hs' hm hm' hx3 hB3 hB5 HB2 HV2
  go_wp2_with fail
  have hl6 : BS ((w5.alloc (.cells #[.slice (some ⟨b7, o7, none⟩) 1 c7, .slice A9 0 c9] 47)).alloc (.cells #[.int .u8 64, .int .u8 1, .int .u8 2] 5)) ((w5.alloc (.cells #[.slice (some ⟨b7, o7, none⟩) 1 c7, .slice A9 0 c9] 47)).alloc (.cells #[.int .u8 64, .int .u8 1, .int .u8 2] 5)).heap.size (.slice (some ⟨w5.heap.size + 1, 0, none⟩) 3 3) [64, 1, 2] := by
    have h := Sl.lit (size := 1) (w5.alloc (.cells #[.slice (some ⟨b7, o7, none⟩) 1 c7, .slice A9 0 c9] 47)) #[.int .u8 64, .int .u8 1, .int .u8 2] 5 3 rfl (by simp [maxLen])
    rw [show (w5.alloc (.cells #[.slice (some ⟨b7, o7, none⟩) 1 c7, .slice A9 0 c9] 47)).heap.size = w5.heap.size + 1 by simp] at h
    exact h.more (by simp)
  refine (same_any _ _ _ _ _ (HV5.out.on (al2 _ _ _)) hl6).mono ?_
  rintro e w6 ⟨rfl, rfl⟩
  rw [decide_eq_true rfl]
  clear hl6
  have hcn : cntN 16 = 2 := by decide
  go_wp2_with fail
  refine (count_any 16 _).mono ?_
  rintro e w7 ⟨rfl, rfl⟩
  rw [hcn]
  go_wp2
  go_ret
  exact ⟨rfl, HB5.out.trans ((al2 _ _ _).mono HB5.out.size)⟩
end Go.Proofs.Ytkpjinkkjbljkaa
