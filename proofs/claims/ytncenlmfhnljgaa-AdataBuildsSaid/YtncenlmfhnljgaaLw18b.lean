/- The walks of the laws of adata: AdataBuilds, AdataBack, AdataContents. No condition but the reach of the form. -/
import Derived.Test.YtncenlmfhnljgaaLw18
namespace Go.Proofs.Ytncenlmfhnljgaa
open Go.RowKit

/-- A copy of the services. -/
theorem shs_ow {w : World} {v : Value} {ws : List Nat} {n base : Nat} (h : w.ownsRow base 47 1 v n ([] ++ shs ws)) (hn : n = 0 + ws.length) : OW w base v ws := by
  subst hn
  rw [List.nil_append, Nat.zero_add] at h
  exact h

set_option maxRecDepth 100000 in
set_option maxHeartbeats 1000000 in
theorem adataBuilds_walk (f : Int) (nm : ByteArray) (v : Value) (ws : List Nat) (w : World) (hv : WS w w.heap.size v ws) (hle : ws.length ≤ 140737488351232) (hn : nm.size ≤ 140737488351232) (h16 : ∀ n ∈ ws, n < 65536) :
    Calls Try.prog 6 #[.int .i64 f, .string nm, v] w fun e w' => e = .returned (.bool true) ∧ Below w.heap.size w w' := by
  obtain ⟨A, c, rfl, _⟩ := id hv
  have HV := Lib.hid hv
  have HN := Lib.hid hn
  have H16 := Lib.hid h16
  clear hv hn h16
  go_enter Try.func6, Try.ntmps6
  go_wp2_with fail
  refine (livesA_any _).mono ?_
  rintro e w1 ⟨rfl, hb1⟩
  have HB1 := Lib.hid hb1
  have HV1 := Lib.hid (HV.out.on hb1)
  clear hb1 HV
  by_cases h100 : 100 < ws.length
  · have hd : decide ((100 : Int) < (ws.length : Int)) = true := decide_eq_true (by omega)
    clear h100
    go_wp2_with fail
    go_ret
    exact ⟨rfl, HB1.out⟩
  · have hd : decide ((100 : Int) < (ws.length : Int)) = false := decide_eq_false (by omega)
    have H100 := Lib.hid (show ws.length ≤ 100 by omega)
    have HO := Lib.hid (World.ownsRow_lit (base := w1.heap.size) (e := 47) (size := 1) w1 #[] 0 (Nat.le_refl _) (by simp [maxLen]) rfl)
    clear h100
    go_wp2_with (first
      | (at_builtin
         refine app_sl _ elW rfl (.tmp 19) (.tmp 20) rfl rfl HO.out rfl (HV1.out.on (al1 _ _)) (shs_one _) ?_ ?_ ?_
         (case refine_1 => have := H100.out; omega)
         (case refine_2 => simp)
         intro v2 w2 hown2 hg2 _ _
         have HB2 := Lib.hid (below_app (al1 _ _) HO.out hg2 (Nat.le_refl _) (by simp))
         have HO2 := Lib.hid (show OW w2 w1.heap.size v2 ws from shs_ow hown2 rfl)
         clear hown2 hg2))
    refine (abuild_any f nm ws v2 w2 (Sl.of_own HO2.out) (by have := H100.out; omega) HN.out H16.out).mono ?_
    rintro e w3 ⟨hb3, v3, rfl, h3⟩
    obtain ⟨A3, c3, rfl, _⟩ := id h3
    have HB3 := Lib.hid (bthen HB1.out (bthen HB2.out hb3))
    have HV3 := Lib.hid (HV1.out.on (bthen HB2.out hb3))
    have HR3 := Lib.hid h3
    clear hb3 h3 HB1 HB2 HV1 HO HO2
    go_wp2_with fail
    refine (rabuild_any f nm ws _ w3 HV3.out (by have := H100.out; omega) HN.out H16.out).mono ?_
    rintro e w4 ⟨hb4, v4, rfl, h4⟩
    obtain ⟨A4, c4, rfl, _⟩ := id h4
    have HB4 := Lib.hid (bthen HB3.out hb4)
    have HR4 := Lib.hid (HR3.out.on hb4)
    have HQ4 := Lib.hid h4
    clear hb4 h4 HB3 HV3 HR3
    go_wp2_with fail
    refine (same_any _ _ _ _ w4 HR4.out HQ4.out).mono ?_
    rintro e w5 ⟨rfl, rfl⟩
    rw [decide_eq_true rfl]
    go_wp2
    go_ret
    exact ⟨rfl, HB4.out⟩
end Go.Proofs.Ytncenlmfhnljgaa
