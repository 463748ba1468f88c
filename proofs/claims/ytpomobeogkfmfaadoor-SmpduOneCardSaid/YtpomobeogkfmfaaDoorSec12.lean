/- Walks of the reference of package smpdu: features, Decode (the errors of lengths and kinds). -/
import Derived.Test.YtpomobeogkfmfaaDoorSec10
import Derived.Test.YtpomobeogkfmfaaDoorSec5
namespace Go.Proofs.YtpomobeogkfmfaaDoor
open Go.RowKit

theorem bit_ints (n : Nat) : (((n : Int) % 2 == 1) = bitN n 0) ∧ (((n : Int) / 2 % 2 == 1) = bitN n 1) ∧ (((n : Int) / 4 % 2 == 1) = bitN n 2) ∧ (((n : Int) / 8 % 2 == 1) = bitN n 3) ∧ (((n : Int) / 16 % 2 == 1) = bitN n 4) := by
  refine ⟨?_, ?_, ?_, ?_, ?_⟩
  all_goals
    unfold bitN
    rw [Bool.eq_iff_iff]
    simp
    omega
set_option maxRecDepth 100000 in
set_option maxHeartbeats 1000000 in
theorem rfeatures_any (i : Int) (n : Nat) (w : World) : Calls Tryd.prog 63 #[.int .i64 i, .int .u8 (n : Int)] w fun e w' => e = .returned (feat i (bitN n 0) (bitN n 1) (bitN n 2) (bitN n 3) (bitN n 4)) ∧ Below w.heap.size w w' := by
  obtain ⟨h0, h1, h2, h3, h4⟩ := bit_ints n
  generalize bitN n 0 = b0 at *
  generalize bitN n 1 = b1 at *
  generalize bitN n 2 = b2 at *
  generalize bitN n 3 = b3 at *
  generalize bitN n 4 = b4 at *
  go_enter Tryd.func63, Tryd.ntmps63
  go_wp2
  refine bodyPost_ret (v := feat i b0 b1 b2 b3 b4) (by simp [results, Tryd.results63, go_sem]) rfl ?_
  exact ⟨rfl, (Below.refl _ _).alloc (Nat.le_refl _) _⟩

theorem bs_cells {w : World} {B b o n c : Nat} {l : List UInt8} (h : BS w B (.slice (some ⟨b, o, none⟩) n c) l) (hl : 0 < l.length) : n = l.length ∧ b < B ∧ n ≤ c ∧ c ≤ maxLen ∧ ∀ i, i < l.length → w.cell? ⟨b, o + i, none⟩ = some (.int .u8 ((nB l i : Nat) : Int)) := by
  obtain ⟨A', c', e, h1, h2, h3, h4⟩ := h
  injection e with e1 e2 e3
  subst e1 e2 e3
  rcases h4 with h4 | ⟨b', off', e, hb, hcell⟩
  · have h5 := congrArg List.length h4
    rw [bys_length, List.length_nil] at h5
    omega
  · injection e with e
    injection e with e1 e2
    subst e1 e2
    refine ⟨rfl, hb, h1, h2, fun i hi => ?_⟩
    have := hcell i _ (bys_at hi)
    rw [this]
    simp [nB, List.getD, hi]

set_option maxRecDepth 100000 in
set_option maxHeartbeats 1000000 in
theorem rsdecode_nil (v : Value) (w : World) (hb : BS w w.heap.size v []) : Calls Tryd.prog 38 #[v] w (SDecPost w []) := by
  obtain ⟨A, c, rfl, _⟩ := id hb
  clear hb
  go_enter Tryd.func38, Tryd.ntmps38
  go_wp2_with fail
  refine bodyPost_ret (v := .tuple #[secV sec0, .int .i64 3]) (by simp [results, Tryd.results38, go_sem, sec0]) rfl ?_
  exact ⟨rfl, al1 _ _⟩

set_option maxRecDepth 100000 in
set_option maxHeartbeats 1000000 in
theorem rsdecode_no (a : UInt8) (r : List UInt8) (v : Value) (h : ¬ hasK (a.toNat : Int) = true) (w : World) (hb : BS w w.heap.size v (a :: r)) : Calls Tryd.prog 38 #[v] w (SDecPost w (a :: r)) := by
  have hE : decSE (a :: r) = 12 := by
    unfold decSE
    rw [if_neg (by simp), if_pos (by simpa [nB] using h)]
  have HE := Lib.hid hE
  have HS := Lib.hid (show decS (a :: r) = sec0 by unfold decS; rw [if_neg (by rw [hE]; decide)])
  obtain ⟨b, o, c, rfl, hB, hn, hcm, d0⟩ := hb.at_ (bys_at (k := 0) (by simp))
  have hB' : b < w.heap.size + 1 := by omega
  have hlt := a.toNat_lt
  have d0' : w.cell? ⟨b, o, none⟩ = some (.int .u8 (a.toNat : Int)) := d0
  have hwr := wri64 (show a.toNat ≤ 9223372036854775807 by omega)
  have hl0 := lenK_no h
  generalize a.toNat = k at *
  clear hE h hb d0
  generalize hN : (a :: r).length = N at *
  have hN0 : 0 < N := by rw [← hN]; simp
  unfold maxLen at hcm
  clear hN
  go_enter Tryd.func38, Tryd.ntmps38
  go_wp2_with fail
  refine (length_any (k : Int) _).mono ?_
  rintro e w1 ⟨rfl, rfl⟩
  rw [hl0]
  go_wp2_with fail
  refine bodyPost_ret (v := .tuple #[secV sec0, .int .i64 12]) (by simp [results, Tryd.results38, go_sem, sec0]) rfl ?_
  exact ⟨by rw [HE.out, HS.out], al1 _ _⟩

set_option maxRecDepth 100000 in
set_option maxHeartbeats 4000000 in
theorem rsdecode_len (a : UInt8) (r : List UInt8) (v : Value) (hl : (a :: r).length ≤ 140737488355328) (h : hasK (a.toNat : Int) = true) (hne : ((r.length + 1 : Nat) : Int) ≠ lenK (a.toNat : Int)) (w : World) (hb : BS w w.heap.size v (a :: r)) :
    Calls Tryd.prog 38 #[v] w (SDecPost w (a :: r)) := by
  have hE : decSE (a :: r) = if ((r.length + 1 : Nat) : Int) < lenK (a.toNat : Int) then 3 else 2 := by
    unfold decSE
    rw [if_neg (by simp), if_neg (by simpa [nB] using h)]
    show (if ((r.length + 1 : Nat) : Int) < lenK (a.toNat : Int) then 3 else if lenK (a.toNat : Int) < ((r.length + 1 : Nat) : Int) then 2 else if badF (a.toNat : Int) r = true then 2 else chkS (decP (a.toNat : Int) r)) = _
    by_cases h1 : ((r.length + 1 : Nat) : Int) < lenK (a.toNat : Int)
    · rw [if_pos h1, if_pos h1]
    · rw [if_neg h1, if_neg h1, if_pos (by omega)]
  have HE := Lib.hid hE
  have HS := Lib.hid (show decS (a :: r) = sec0 by unfold decS; rw [if_neg (by rw [hE]; split <;> decide)])
  obtain ⟨b, o, c, rfl, hB, hn, hcm, d0⟩ := hb.at_ (bys_at (k := 0) (by simp))
  have hB' : b < w.heap.size + 1 := by omega
  have hlt := a.toNat_lt
  have d0' : w.cell? ⟨b, o, none⟩ = some (.int .u8 (a.toNat : Int)) := d0
  have hwr := wri64 (show a.toNat ≤ 9223372036854775807 by omega)
  have hl0 := lenK_ne h
  have hrl : (a :: r).length = r.length + 1 := rfl
  rw [hrl] at hn hl ⊢
  have CL := Lib.hid (length_any (a.toNat : Int))
  generalize lenK (a.toNat : Int) = n at *
  generalize a.toNat = k at *
  clear hE h hb d0 hrl
  generalize r.length = N at *
  unfold maxLen at hcm
  by_cases h1 : ((N + 1 : Nat) : Int) < n
  · have HE1 := Lib.hid (HE.out.trans (if_pos h1))
    have h1' : (N : Int) + 1 < n := by omega
    clear h1
    go_enter Tryd.func38, Tryd.ntmps38
    go_wp2_with fail
    refine (CL.out _).mono ?_
    rintro e w1 ⟨rfl, rfl⟩
    go_wp2_with fail
    refine bodyPost_ret (v := .tuple #[secV sec0, .int .i64 3]) (by simp [results, Tryd.results38, go_sem, sec0]) rfl ?_
    exact ⟨by rw [HE1.out, HS.out], al1 _ _⟩
  · have HE1 := Lib.hid (HE.out.trans (if_neg h1))
    have h1' : ¬ (N : Int) + 1 < n := by omega
    have h2' : n < (N : Int) + 1 := by omega
    clear h1
    go_enter Tryd.func38, Tryd.ntmps38
    go_wp2_with fail
    refine (CL.out _).mono ?_
    rintro e w1 ⟨rfl, rfl⟩
    go_wp2_with fail
    refine bodyPost_ret (v := .tuple #[secV sec0, .int .i64 2]) (by simp [results, Tryd.results38, go_sem, sec0]) rfl ?_
    exact ⟨by rw [HE1.out, HS.out], al1 _ _⟩
end Go.Proofs.YtpomobeogkfmfaaDoor
