/- Walks of the reference of package address: Encode. -/
import Derived.Test.YtpomobeogkfmfaaDoorAdr16
namespace Go.Proofs.YtpomobeogkfmfaaDoor
open Go.RowKit

theorem encA_cells (kk x : Nat) (hk : kk < 256) : [.int .u8 (kk : Int)] ++ bys (le 6 x) = bys (encA kk x) := by
  have e : kk % 256 = kk := Nat.mod_eq_of_lt hk
  simp [encA, bys]
  omega

set_option maxRecDepth 100000 in
set_option maxHeartbeats 4000000 in
theorem rencode_any (k : Int) (x : Nat) (w : World) : Calls Tryd.prog 28 #[adr k x] w (EncPost w k x) := by
  have hb := al1 w (.cells #[.int .i64 k, .int .u64 (x : Int)] 24)
  by_cases hc : chkA k x = 0
  · obtain ⟨h1, h4, hx⟩ := chk_ok hc
    obtain ⟨kk, rfl⟩ := Int.eq_ofNat_of_zero_le (show 0 ≤ k by omega)
    have HC := Lib.hid hc
    go_enter Tryd.func28, Tryd.ntmps28
    go_wp2_with fail
    refine (rcheck_any kk x _).mono ?_
    rintro e w1 ⟨rfl, hb1⟩
    rw [hc]
    have hcl := bfar (w.heap.size + 1) hb1 (by simp)
    have hl0 : w1.cell? ⟨w.heap.size, 0, none⟩ = some (.int .i64 (kk : Int)) := by rw [hcl w.heap.size 0 (by omega)]; simp [go_sem]
    have hl1 : w1.cell? ⟨w.heap.size, 1, none⟩ = some (.int .u64 (x : Int)) := by rw [hcl w.heap.size 1 (by omega)]; simp [go_sem]
    have hB := Lib.hid (bthen hb hb1)
    have hz := sz1 hb1
    have hz' : w.heap.size < w1.heap.size + 1 := by omega
    have h4' : kk ≤ 4 := by omega
    have hw8 : IntKind.u8.wrap (kk : Int) = (kk : Int) := by rw [IntKind.wrap_u8]; omega
    clear hcl hb hb1 hc h1 h4
    go_wp2_with fail
    go_region_held3 (fun w' => w'.cell? ⟨w.heap.size, 0, none⟩ = some (.int .i64 (kk : Int)) ∧ w'.cell? ⟨w.heap.size, 1, none⟩ = some (.int .u64 (x : Int))) (go_keep)
      (first
        | (go_at_call 44; refine (num_any 6 x _ (by omega) (by omega)).mono ?_; rintro e w2 ⟨hb2, u, rfl, hu⟩; have hc2 := bfar (w1.heap.size) hb2 (by simp); have hz2 : w1.heap.size ≤ w2.heap.size := (by have := hb2.size; simp at this; omega))
        | (refine step_sl _ elB rfl (.tmp 13) (.tmp 16) rfl rfl (own_on (own_drew (World.ownsRow_lit (base := w.heap.size) (e := 5) (size := 1) w1 #[.int .u8 (kk : Int)] 1 hB.out.size (by simp [maxLen]) rfl)) hb2) rfl (Sl.of_own hu) ?_ ?_ ?_ ?_
           (case refine_1 => exact bys_one _)
           (case refine_2 => simp [le_length])
           (case refine_3 => omega)
           intro v3 w3 hown3 hg3 hnil3 hat3
           have hb3 : Below w.heap.size w w3 := below_app (((hB.out.alloc hB.out.size _).drew).trans (hb2.mono (by simp; omega))) (own_on (own_drew (World.ownsRow_lit (base := w.heap.size) (e := 5) (size := 1) w1 #[.int .u8 (kk : Int)] 1 hB.out.size (by simp [maxLen]) rfl)) hb2) hg3 (Nat.le_refl _) (by omega)
           have hc3 : ∀ o, w3.cell? ⟨w.heap.size, o, none⟩ = w2.cell? ⟨w.heap.size, o, none⟩ := fun o => World.cell?_of_block (a := ⟨w.heap.size, o, none⟩) (hg3.block w.heap.size (by omega) (fun h => by have h' := Option.some.inj (show some w.heap.size = some w1.heap.size from h); omega)))
        | (refine step_sl _ elB rfl (.tmp 13) (.tmp 16) rfl rfl (World.ownsRow_lit (base := w.heap.size) (e := 5) (size := 1) w2 #[.int .u8 (kk : Int)] 1 (by omega) (by simp [maxLen]) rfl) rfl ((Sl.of_own hu).on (al1 _ _)) ?_ ?_ ?_ ?_
           (case refine_1 => exact bys_one _)
           (case refine_2 => simp [le_length])
           (case refine_3 => simp; omega)
           intro v3 w3 hown3 hg3 hnil3 hat3
           have hb3 : Below w.heap.size w w3 := below_app (((hB.out.drew).trans (hb2.mono (by simp; omega))).alloc (by omega) _) (World.ownsRow_lit (base := w.heap.size) (e := 5) (size := 1) w2 #[.int .u8 (kk : Int)] 1 (by omega) (by simp [maxLen]) rfl) hg3 (Nat.le_refl _) (by simp; omega)
           have hc3 : ∀ o, w3.cell? ⟨w.heap.size, o, none⟩ = (w2.alloc (.cells #[.int .u8 (kk : Int)] 5)).cell? ⟨w.heap.size, o, none⟩ := fun o => World.cell?_of_block (a := ⟨w.heap.size, o, none⟩) (hg3.block w.heap.size (by simp; omega) (fun h => by have h' := Option.some.inj (show some w.heap.size = some w2.heap.size from h); omega))))
    all_goals
      have K1 := Lib.hid (show w3.ownsRow w.heap.size 5 1 v3 7 (bys (encA kk x)) by
        have h := hown3
        rw [le_length] at h
        rw [← encA_cells kk x (by omega)]
        exact h)
      have K2 := Lib.hid hb3
      clear hown3 hg3 hnil3 hat3 hb3 hc3
      go_wp2
      go_ret2
      exact ⟨K2.out, fun _ => ⟨v3, rfl, K1.out⟩, fun h => absurd HC.out h⟩
  · have HC := Lib.hid hc
    have HC' := ne_bool hc
    go_enter Tryd.func28, Tryd.ntmps28
    go_wp2_with fail
    refine (rcheck_any k x _).mono ?_
    rintro e w1 ⟨rfl, hb1⟩
    have hB := Lib.hid (bthen hb hb1)
    clear hb hb1 hc
    generalize hcd : chkA k x = c at *
    have HCD := Lib.hid hcd
    clear hcd
    go_wp2_with fail
    go_ret2
    exact ⟨hB.out, fun h => absurd (HCD.out.symm.trans h) HC.out, fun _ => by rw [HCD.out]; rfl⟩
end Go.Proofs.YtpomobeogkfmfaaDoor
