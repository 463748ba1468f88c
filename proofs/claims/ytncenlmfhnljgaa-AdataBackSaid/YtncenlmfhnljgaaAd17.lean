/- Walks of the laws of adata: lives. No condition. -/
import Derived.Test.YtncenlmfhnljgaaAd16
namespace Go.Proofs.Ytncenlmfhnljgaa
open Go.RowKit

def wantA : List UInt8 := [2, 1, 6, 3, 3, 1, 24, 3, 9, 97, 98]
theorem exB1 : bdE 6 [97, 98] [6145] = 0 := by decide
theorem exB2 : bdR 6 [97, 98] [6145] = wantA := by decide
theorem exB3 : findA (adL wantA) 1 = some [6] ∧ (findA (adL wantA) 9).getD [] = [97, 98] ∧ servA (adL wantA) = [6145] := by
  obtain ⟨_, _, _, h1, h2, h3⟩ := bd_contents (f := 6) (nm := [97, 98]) (ws := [6145]) (by simp) exB1
  rw [exB2] at h1 h2 h3
  exact ⟨h1, h2, h3⟩
theorem exE1 : encE [(5, [])] = 0 := by decide
theorem exE2 : encR [(5, [])] = [1, 5] := by decide
theorem exD1 : adE [1, 5] = 0 ∧ adL [1, 5] = [(5, [])] := by
  obtain ⟨h1, h2, _⟩ := ad_back exE1
  rw [exE2] at h1 h2
  exact ⟨h1, h2⟩
/-- One element without a value, just laid. -/
theorem el5_new (w : World) : ElsV (w.alloc (.cells #[.int .i64 5, .slice none 0 0] 49)) (w.alloc (.cells #[.int .i64 5, .slice none 0 0] 49)).heap.size (.slice (some ⟨w.heap.size, 0, none⟩) 1 1) [(5, [])] :=
  ⟨[.slice none 0 0], rfl, (Sl.lit w #[.int .i64 5, .slice none 0 0] _ 1 rfl (by simp [maxLen])).more (by simp), fun k p u hp hu => by
    rcases k with _ | k
    · simp only [List.getElem?_cons_zero, Option.some.injEq] at hp hu
      subst hp hu
      exact .nil _ _
    · simp at hp⟩

set_option maxRecDepth 100000 in
set_option maxHeartbeats 1000000 in
theorem livesA_any (w : World) : Calls Try.prog 9 #[] w fun e w' => e = .returned (.bool true) ∧ Below w.heap.size w w' := by
  go_enter Try.func9, Try.ntmps9
  go_wp2_with fail
  have HW0 := Lib.hid (show BS (w.alloc (.cells #[.int .u8 2, .int .u8 1, .int .u8 6, .int .u8 3, .int .u8 3, .int .u8 1, .int .u8 24, .int .u8 3, .int .u8 9, .int .u8 97, .int .u8 98] 5)) (w.alloc (.cells #[.int .u8 2, .int .u8 1, .int .u8 6, .int .u8 3, .int .u8 3, .int .u8 1, .int .u8 24, .int .u8 3, .int .u8 9, .int .u8 97, .int .u8 98] 5)).heap.size (.slice (some ⟨w.heap.size, 0, none⟩) 11 11) wantA from
    (Sl.lit (size := 1) w #[.int .u8 2, .int .u8 1, .int .u8 6, .int .u8 3, .int .u8 3, .int .u8 1, .int .u8 24, .int .u8 3, .int .u8 9, .int .u8 97, .int .u8 98] 5 11 rfl (by simp [maxLen])).more (by simp))
  have hz : w.heap.size + 1 = (w.alloc (.cells #[.int .u8 2, .int .u8 1, .int .u8 6, .int .u8 3, .int .u8 3, .int .u8 1, .int .u8 24, .int .u8 3, .int .u8 9, .int .u8 97, .int .u8 98] 5)).heap.size := by simp
  have hA := al1 w (.cells #[.int .u8 2, .int .u8 1, .int .u8 6, .int .u8 3, .int .u8 3, .int .u8 1, .int .u8 24, .int .u8 3, .int .u8 9, .int .u8 97, .int .u8 98] 5)
  generalize w.alloc (.cells #[.int .u8 2, .int .u8 1, .int .u8 6, .int .u8 3, .int .u8 3, .int .u8 1, .int .u8 24, .int .u8 3, .int .u8 9, .int .u8 97, .int .u8 98] 5) = W at *
  have HA := Lib.hid hA
  rw [hz]
  clear hA hz
  have hws : WS (W.alloc (.cells #[.int .u16 6145] 47)) (W.alloc (.cells #[.int .u16 6145] 47)).heap.size (.slice (some ⟨W.heap.size, 0, none⟩) 1 1) [6145] :=
    (Sl.lit (size := 1) W #[.int .u16 6145] 47 1 rfl (by simp [maxLen])).more (by simp)
  refine (abuild_any 6 ⟨#[97, 98]⟩ [6145] _ _ hws (by simp) (by decide) (by simp)).mono ?_
  rintro e w1 ⟨hb1, v1, rfl, h1⟩
  rw [show (⟨#[97, 98]⟩ : ByteArray).data.toList = [97, 98] from rfl, exB2] at h1
  rw [show (⟨#[97, 98]⟩ : ByteArray).data.toList = [97, 98] from rfl, exB1]
  obtain ⟨A1, c1, rfl, _⟩ := id h1
  have HB1 := Lib.hid (bthen HA.out (one hb1))
  have HW1 := Lib.hid (HW0.out.on (one hb1))
  have HV1 := Lib.hid h1
  clear hb1 h1 HA HW0 hws
  go_wp2_with fail
  refine (afind_any _ wantA 1 w1 HW1.out).mono ?_
  rintro e w2 ⟨hb2, v2, rfl, h2⟩
  rw [exB3.1] at h2 ⊢
  have h2' : BS w2 w2.heap.size v2 [6] := h2
  obtain ⟨A2, c2, rfl, _⟩ := id h2'
  have HB2 := Lib.hid (bthen HB1.out hb2)
  have HW2 := Lib.hid (HW1.out.on hb2)
  have HV2 := Lib.hid (HV1.out.on hb2)
  have HF2 := Lib.hid h2'
  clear hb2 h2 h2' HB1 HW1 HV1
  go_wp2_with fail
  have hl3 : BS (w2.alloc (.cells #[.int .u8 1, .int .u8 5] 5)) (w2.alloc (.cells #[.int .u8 1, .int .u8 5] 5)).heap.size (.slice (some ⟨w2.heap.size, 0, none⟩) 2 2) [1, 5] :=
    (Sl.lit (size := 1) w2 #[.int .u8 1, .int .u8 5] 5 2 rfl (by simp [maxLen])).more (by simp)
  refine (adecode_any _ [1, 5] _ hl3).mono ?_
  rintro e w3 ⟨hb3, v3, rfl, h3⟩
  rw [exD1.2] at h3
  rw [exD1.1]
  obtain ⟨A3, c3, rfl⟩ := h3.form
  have HB3 := Lib.hid (bthen HB2.out (one hb3))
  have HW3 := Lib.hid (HW2.out.on (one hb3))
  have HV3 := Lib.hid (HV2.out.on (one hb3))
  have HF3 := Lib.hid (HF2.out.on (one hb3))
  have HD3 := Lib.hid h3
  clear hb3 h3 hl3 HB2 HW2 HV2 HF2
  go_wp2_with fail
  refine (aencode_any _ [(5, [])] _ (el5_new w3) (by simp)).mono ?_
  rintro e w4 ⟨hb4, v4, rfl, h4⟩
  rw [exE2] at h4
  rw [exE1]
  obtain ⟨A4, c4, rfl, _⟩ := id h4
  have HB4 := Lib.hid (bthen HB3.out (one hb4))
  have HW4 := Lib.hid (HW3.out.on (one hb4))
  have HV4 := Lib.hid (HV3.out.on (one hb4))
  have HF4 := Lib.hid (HF3.out.on (one hb4))
  have HD4 := Lib.hid (HD3.out.on (one hb4))
  have HE4 := Lib.hid h4
  clear hb4 h4 HB3 HW3 HV3 HF3 HD3
  go_wp2_with fail
  refine (same_any _ _ wantA wantA w4 HV4.out HW4.out).mono ?_
  rintro e w5 ⟨rfl, rfl⟩
  rw [decide_eq_true rfl]
  go_wp2_with fail
  refine (aname_any _ wantA w4 HW4.out).mono ?_
  rintro e w5 ⟨hb5, rfl⟩
  rw [show nameA wantA = [97, 98] from exB3.2.1]
  have HB5 := Lib.hid (bthen HB4.out hb5)
  have HW5 := Lib.hid (HW4.out.on hb5)
  have HF5 := Lib.hid (HF4.out.on hb5)
  have HD5 := Lib.hid (HD4.out.on hb5)
  have HE5 := Lib.hid (HE4.out.on hb5)
  clear hb5 HB4 HW4 HV4 HF4 HD4 HE4
  go_wp2_with fail
  refine (aserv_any _ wantA w5 HW5.out).mono ?_
  rintro e w6 ⟨hb6, v6, rfl, h6⟩
  rw [exB3.2.2] at h6
  obtain ⟨A6, c6, rfl, _⟩ := id h6
  have HB6 := Lib.hid (bthen HB5.out hb6)
  have HF6 := Lib.hid (HF5.out.on hb6)
  have HD6 := Lib.hid (HD5.out.on hb6)
  have HE6 := Lib.hid (HE5.out.on hb6)
  have HS6 := Lib.hid h6
  clear hb6 h6 HB5 HW5 HF5 HD5 HE5
  go_wp2_with fail
  have hws6 : WS (w6.alloc (.cells #[.int .u16 6145] 47)) (w6.alloc (.cells #[.int .u16 6145] 47)).heap.size (.slice (some ⟨w6.heap.size, 0, none⟩) 1 1) [6145] :=
    (Sl.lit (size := 1) w6 #[.int .u16 6145] 47 1 rfl (by simp [maxLen])).more (by simp)
  refine (sameshort_any _ _ [6145] [6145] _ (HS6.out.on (al1 _ _)) hws6 (by simp)).mono ?_
  rintro e w7 ⟨rfl, hb7⟩
  rw [decide_eq_true rfl]
  have HB7 := Lib.hid (bthen HB6.out (one hb7))
  have HF7 := Lib.hid (HF6.out.on (one hb7))
  have HD7 := Lib.hid (HD6.out.on (one hb7))
  have HE7 := Lib.hid (HE6.out.on (one hb7))
  clear hb7 hws6 HS6 HB6 HF6 HD6 HE6
  go_wp2_with fail
  have hl7 : BS (w7.alloc (.cells #[.int .u8 6] 5)) (w7.alloc (.cells #[.int .u8 6] 5)).heap.size (.slice (some ⟨w7.heap.size, 0, none⟩) 1 1) [6] :=
    (Sl.lit (size := 1) w7 #[.int .u8 6] 5 1 rfl (by simp [maxLen])).more (by simp)
  refine (same_any _ _ [6] [6] _ (HF7.out.on (al1 _ _)) hl7).mono ?_
  rintro e w8 ⟨rfl, rfl⟩
  rw [decide_eq_true rfl]
  clear hl7
  go_wp2_with fail
  have he7 := el5_new (w7.alloc (.cells #[.int .u8 6] 5))
  rw [show (w7.alloc (.cells #[.int .u8 6] 5)).heap.size = w7.heap.size + 1 by simp] at he7
  refine (samel_any _ _ [(5, [])] [(5, [])] _ (HD7.out.on (al2 _ _ _)) he7 (by simp)).mono ?_
  rintro e w8 ⟨rfl, hb8⟩
  rw [decide_eq_true rfl]
  have HB8 := Lib.hid (bthen HB7.out (two hb8))
  have HE8 := Lib.hid (HE7.out.on (two hb8))
  clear hb8 he7 HB7 HF7 HD7 HE7
  go_wp2_with fail
  have hl9 : BS (w8.alloc (.cells #[.int .u8 1, .int .u8 5] 5)) (w8.alloc (.cells #[.int .u8 1, .int .u8 5] 5)).heap.size (.slice (some ⟨w8.heap.size, 0, none⟩) 2 2) [1, 5] :=
    (Sl.lit (size := 1) w8 #[.int .u8 1, .int .u8 5] 5 2 rfl (by simp [maxLen])).more (by simp)
  refine (same_any _ _ [1, 5] [1, 5] _ (HE8.out.on (al1 _ _)) hl9).mono ?_
  rintro e w9 ⟨rfl, rfl⟩
  rw [decide_eq_true rfl]
  clear hl9
  go_wp2
  go_ret
  exact ⟨rfl, HB8.out.alloc HB8.out.size _⟩
end Go.Proofs.Ytncenlmfhnljgaa
