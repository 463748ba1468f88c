/- Walks of the reference of package address: Decode. -/
import Derived.Test.YtpomobeogkfmfaaDoorAdr18
namespace Go.Proofs.YtpomobeogkfmfaaDoor
open Go.RowKit

/-- A piece out of bytes: 'b[k:m]'. -/
theorem BS.piece {w : World} {B n c b off : Nat} {l : List UInt8} (h : BS w B (.slice (some ⟨b, off, none⟩) n c) l) {k m : Nat} (hk : k ≤ m) (hm : m ≤ l.length) (hc : k < c) :
    BS w B (.slice (some ⟨b, off + k, none⟩) (m - k) (c - k)) ((l.drop k).take (m - k)) := by
  obtain ⟨A', c', e, h1, h2, h3, h4⟩ := h
  injection e with e1 e2 e3
  subst e1 e2 e3
  have hl : ((l.drop k).take (m - k)).length = m - k := by rw [List.length_take, List.length_drop]; omega
  refine ⟨_, c - k, by rw [hl], by rw [hl]; omega, by omega, by rw [bys_length]; omega, ?_⟩
  rcases h4 with h4 | ⟨b', off', e, hb, hcell⟩
  · left
    have : l = [] := by simpa [bys] using h4
    subst this
    simp [bys]
  · right
    injection e with e
    injection e with e1 e2
    subst e1 e2
    refine ⟨b, off + k, rfl, hb, fun j u hu => ?_⟩
    rw [Nat.add_assoc]
    apply hcell
    rw [bys_take, bys_drop] at hu
    by_cases hj : j < m - k
    · rw [List.getElem?_take_of_lt hj, List.getElem?_drop] at hu
      exact hu
    · rw [List.getElem?_eq_none (by simp; omega)] at hu
      cases hu

set_option maxRecDepth 100000 in
set_option maxHeartbeats 4000000 in
theorem rdecode_short (l : List UInt8) (v : Value) (hs : l.length < 7) (w : World) (hb : BS w w.heap.size v l) : Calls Tryd.prog 31 #[v] w (DecPost w l) := by
  obtain ⟨A, c, rfl, _⟩ := id hb
  have HD := Lib.hid (show decE l = 3 by unfold decE; rw [if_pos hs])
  clear hb
  go_enter Tryd.func31, Tryd.ntmps31
  go_wp2_with fail
  refine bodyPost_ret (v := .tuple #[adr 0 0, .slice none 0 0, .int .i64 3]) (by simp [results, Tryd.results31, go_sem]) rfl ?_
  exact ⟨al1 _ _, fun h => absurd (HD.out.symm.trans h) (by decide), fun _ => by rw [HD.out]⟩

set_option maxRecDepth 100000 in
set_option maxHeartbeats 4000000 in
theorem rdecode_long (l : List UInt8) (v : Value) (hl : l.length ≤ 140737488355328) (hs : 7 ≤ l.length) (w : World) (hb : BS w w.heap.size v l) : Calls Tryd.prog 31 #[v] w (DecPost w l) := by
  obtain ⟨b, o, c, rfl, hB, hn, hcm, d0⟩ := hb.at_ (bys_at (k := 0) (by omega))
  have hp : BS w w.heap.size (.slice (some ⟨b, o + 1, none⟩) 6 (c - 1)) ((l.drop 1).take 6) := hb.piece (k := 1) (m := 7) (by omega) hs (by omega)
  have hpl : ((l.drop 1).take 6).length = 6 := by rw [List.length_take, List.length_drop]; omega
  have hlt := l[0].toNat_lt
  have HKX := Lib.hid (show dcK l = (l[0].toNat : Int) by unfold dcK; simp [List.getD, show 0 < l.length by omega])
  have HB := Lib.hid hb
  have VC : ∀ W : World, Below w.heap.size w W → Calls Tryd.prog 51 #[.slice (some ⟨b, o + 1, none⟩) 6 (c - 1)] W fun e w' => e = .returned (.int .u64 (dcX l : Nat)) ∧ W = w' := by
    intro W hW
    have h := value_any ((l.drop 1).take 6) (some ⟨b, o + 1, none⟩) (c - 1) W w.heap.size (by rw [hpl]; exact hp.below hW) (by omega)
    rw [hpl] at h
    exact h
  have HV := Lib.hid VC
  generalize l[0].toNat = kk at *
  generalize hN : l.length = N at *
  have HN := Lib.hid hN
  have hcN : (N : Int) ≤ (c : Int) := by omega
  have hc7 : (7 : Int) ≤ (c : Int) := by omega
  have hc1 : ¬ c = 1 := by omega
  have hwr : IntKind.i64.wrap (kk : Int) = (kk : Int) := IntWalk.i64_in _ (by omega)
  have d0' : w.cell? ⟨b, o, none⟩ = some (.int .u8 (kk : Int)) := d0
  unfold maxLen at hcm
  have hB' : b < w.heap.size + 1 := by omega
  have hN0 : 0 < N := by omega
  have hdx := dcX_lt l
  have HX := Lib.hid (show decE l = chkA (dcK l) (dcX l) by unfold decE; rw [if_neg (by omega)])
  generalize hyd : dcX l = y at *
  have HY := Lib.hid hyd
  clear hb hp hpl d0 hN hlt VC hyd
  go_enter Tryd.func31, Tryd.ntmps31
  go_wp2_with fail
  go_region_held3 (fun w' => w'.cell? ⟨b, o, none⟩ = some (.int .u8 (kk : Int))) (go_keep) (first | (go_at_call 51; refine (HV.out _ ?_).mono ?_; (first | exact (al1 w _).drew | exact (al2 w _ _).drew); rintro e w2 ⟨rfl, rfl⟩))
  all_goals
    have hbA : Below w.heap.size w (((w.alloc (.cells #[.int .i64 0, .int .u64 0] 24)).alloc (.cells #[.int .i64 (kk : Int), .int .u64 (y : Int)] 24)).drew) := (al2 w _ _).drew
    have hsA : (((w.alloc (.cells #[.int .i64 0, .int .u64 0] 24)).alloc (.cells #[.int .i64 (kk : Int), .int .u64 (y : Int)] 24)).drew).heap.size = w.heap.size + 1 + 1 := by simp
    go_wp2_with fail
    refine (rcheck_any kk y _).mono ?_
    rintro e w3 ⟨rfl, hb3⟩
    obtain ⟨hcl, hfr⟩ := bcell hb3
    rw [hsA] at hcl hfr
    have p0 : w3.cell? ⟨w.heap.size, 0, none⟩ = some (.int .i64 0) := by rw [hcl w.heap.size 0 (by omega)]; simp [go_sem]
    have p1 : w3.cell? ⟨w.heap.size, 1, none⟩ = some (.int .u64 0) := by rw [hcl w.heap.size 1 (by omega)]; simp [go_sem]
    have g0 : w3.frozen? ⟨w.heap.size, 0, none⟩ = false := by rw [hfr w.heap.size 0 (by omega)]; simp [go_sem]
    have g1 : w3.frozen? ⟨w.heap.size, 1, none⟩ = false := by rw [hfr w.heap.size 1 (by omega)]; simp [go_sem]
    have p2 : w3.cell? ⟨w.heap.size + 1, 0, none⟩ = some (.int .i64 (kk : Int)) := by rw [hcl (w.heap.size + 1) 0 (by omega)]; simp [go_sem]
    have p3 : w3.cell? ⟨w.heap.size + 1, 1, none⟩ = some (.int .u64 (y : Int)) := by rw [hcl (w.heap.size + 1) 1 (by omega)]; simp [go_sem]
    have hz3 : w.heap.size + 2 ≤ w3.heap.size := by have := hb3.size; rw [hsA] at this; omega
    have hz4 : w.heap.size < w3.heap.size := by omega
    have hz5 : w.heap.size + 1 < w3.heap.size := by omega
    have HB3 := Lib.hid (hbA.trans (hb3.mono (by rw [hsA]; omega)))
    have HK2 := Lib.hid (show chkA (dcK l) y = chkA (kk : Int) y by rw [HKX.out])
    clear hcl hfr hbA hsA hb3
    by_cases hc : chkA (kk : Int) y = 0
    · have HC := Lib.hid hc
      rw [hc]
      clear hc
      go_wp2_with fail
      have hcut := HB.out
      rw [← HN.out] at hcut
      have hcut := (hcut.cut (k := 7) (by have := HN.out; omega)).below HB3.out
      rw [HN.out] at hcut
      have HCUT := Lib.hid hcut
      have hdl : (l.drop 7).length = N - 7 := by rw [List.length_drop, HN.out]
      have HDL := Lib.hid hdl
      clear hcut hdl
      go_region_held3 (fun w' => w'.cell? ⟨w.heap.size + 1, 0, none⟩ = some (.int .i64 (kk : Int)) ∧ w'.cell? ⟨w.heap.size + 1, 1, none⟩ = some (.int .u64 (y : Int))) (go_keep)
        (first
          | (refine step_sl _ elB rfl (.tmp 26) (.tmp 28) rfl rfl (own_drew (World.ownsRow_lit (base := w3.heap.size) (e := 5) (size := 1) w3 #[] 0 (Nat.le_refl _) (by simp [maxLen]) rfl)) rfl (Sl.drew (Sl.below HCUT.out (al1 w3 _ |>.mono HB3.out.size))) ?_ ?_ ?_ ?_
             (case refine_1 => exact bys_one _)
             (case refine_2 => rw [HDL.out]; omega)
             (case refine_3 => simp)
             intro v4 w4 hown4 hg4 hnil4 hat4
             have hb4 : Below w.heap.size w w4 := below_app ((HB3.out.alloc HB3.out.size _).drew) (own_drew (World.ownsRow_lit (base := w3.heap.size) (e := 5) (size := 1) w3 #[] 0 (Nat.le_refl _) (by simp [maxLen]) rfl)) hg4 HB3.out.size (by simp)
             have hc4 : ∀ o, w4.cell? ⟨w.heap.size, o, none⟩ = (w3.alloc (.cells #[] 5)).cell? ⟨w.heap.size, o, none⟩ := fun o => World.cell?_of_block (a := ⟨w.heap.size, o, none⟩) (hg4.block w.heap.size (by simp; omega) (fun h => by have h' := Option.some.inj (show some w.heap.size = some w3.heap.size from h); omega))
             have hc5 : ∀ o, w4.cell? ⟨w.heap.size + 1, o, none⟩ = (w3.alloc (.cells #[] 5)).cell? ⟨w.heap.size + 1, o, none⟩ := fun o => World.cell?_of_block (a := ⟨w.heap.size + 1, o, none⟩) (hg4.block (w.heap.size + 1) (by simp; omega) (fun h => by have h' := Option.some.inj (show some (w.heap.size + 1) = some w3.heap.size from h); omega))
             have hr0 : w4.cell? ⟨w.heap.size, 0, none⟩ = some (.int .i64 0) := (hc4 0).trans ((World.cell?_alloc_lt w3 _ ⟨w.heap.size, 0, none⟩ hz4).trans p0)
             have hr1 : w4.cell? ⟨w.heap.size, 1, none⟩ = some (.int .u64 0) := (hc4 1).trans ((World.cell?_alloc_lt w3 _ ⟨w.heap.size, 1, none⟩ hz4).trans p1)
             clear hc4
             have hf0 : w4.frozen? ⟨w.heap.size, 0, none⟩ = false := (World.frozen?_of_block (a := ⟨w.heap.size, 0, none⟩) (hg4.block w.heap.size (by simp; omega) (fun h => by have h' := Option.some.inj (show some w.heap.size = some w3.heap.size from h); omega))).trans ((World.frozen?_of_block (a := ⟨w.heap.size, 0, none⟩) (Below.heap_alloc w3 _ w.heap.size hz4)).trans g0)
             have hf1 : w4.frozen? ⟨w.heap.size, 1, none⟩ = false := (World.frozen?_of_block (a := ⟨w.heap.size, 1, none⟩) (hg4.block w.heap.size (by simp; omega) (fun h => by have h' := Option.some.inj (show some w.heap.size = some w3.heap.size from h); omega))).trans ((World.frozen?_of_block (a := ⟨w.heap.size, 1, none⟩) (Below.heap_alloc w3 _ w.heap.size hz4)).trans g1)))
      all_goals
        have K1 := Lib.hid (show w4.ownsRow w3.heap.size 5 1 v4 (N - 7) (bys (l.drop 7)) by
          have h := hown4
          rw [HDL.out, Nat.zero_add] at h
          exact h)
        have K2 := Lib.hid hb4
        clear hown4 hg4 hnil4 hat4 hb4 hc5
        go_wp2
        all_goals
          refine bodyPost_ret (v := .tuple #[adr kk y, v4, .int .i64 0]) (by simp [results, Tryd.results31, go_sem, hr0, hr1]) rfl ?_
          refine ⟨(K2.out.setCell (Nat.le_refl _) _).setCell (Nat.le_refl _) _, fun _ => ⟨v4, by rw [HKX.out, HY.out], ?_⟩, fun h => absurd ((HX.out.trans HK2.out).trans HC.out) h⟩
          rw [HN.out]
          exact own_base (own_far (own_far K1.out hz4 _) hz4 _) HB3.out.size
    · have hc' := ne_bool hc
      have HC := Lib.hid hc
      clear hc
      generalize hcd : chkA (kk : Int) y = cc at *
      have HCD := Lib.hid hcd
      clear hcd
      go_wp2_with fail
      refine bodyPost_ret (v := .tuple #[adr 0 0, .slice none 0 0, .int .i64 cc]) (by simp [results, Tryd.results31, go_sem, p0, p1]) rfl ?_
      exact ⟨(HB3.out.setCell (Nat.le_refl _) _).setCell (Nat.le_refl _) _, fun h => absurd ((HK2.out.symm.trans HX.out.symm).trans h) HC.out, fun _ => by rw [HX.out, HK2.out]⟩

/-- The reference's Decode returns the address at the beginning of bytes, and the rest. -/
theorem rdecode_any (l : List UInt8) (v : Value) (hl : l.length ≤ 140737488355328) (w : World) (hb : BS w w.heap.size v l) : Calls Tryd.prog 31 #[v] w (DecPost w l) := by
  by_cases hs : l.length < 7
  · exact rdecode_short l v hs w hb
  · exact rdecode_long l v hl (by omega) w hb
end Go.Proofs.YtpomobeogkfmfaaDoor
