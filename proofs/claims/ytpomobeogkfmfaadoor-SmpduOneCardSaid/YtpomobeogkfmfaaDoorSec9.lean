/- Walks of package smpdu: features, and the closure of Decode that gives the next number. -/
import Derived.Test.YtpomobeogkfmfaaDoorSec8
namespace Go.Proofs.YtpomobeogkfmfaaDoor
open Go.RowKit

theorem and_bits : ∀ n : Fin 32, (bits .and .u64 ((n.val : Nat) : Int) 1 != 0) = bitN n 0 ∧ (bits .and .u64 ((n.val : Nat) : Int) 2 != 0) = bitN n 1 ∧ (bits .and .u64 ((n.val : Nat) : Int) 4 != 0) = bitN n 2 ∧
    (bits .and .u64 ((n.val : Nat) : Int) 8 != 0) = bitN n 3 ∧ (bits .and .u64 ((n.val : Nat) : Int) 16 != 0) = bitN n 4 := by decide +kernel
theorem not_31 : ∀ n : Fin 256, (bits .andNot .u64 ((n.val : Nat) : Int) 31 != 0) = decide (31 < n.val) := by decide +kernel
theorem not_6 : ∀ n : Fin 256, (bits .andNot .u64 ((n.val : Nat) : Int) 6 != 0) = decide (6 < n.val ∨ n.val % 2 = 1) := by decide +kernel

set_option maxRecDepth 100000 in
set_option maxHeartbeats 1000000 in
theorem features_any (n : Nat) (h : n < 32) (w : World) : Calls Tryd.prog 62 #[.int .u64 (n : Int)] w fun e w' => e = .returned (feat 0 (bitN n 0) (bitN n 1) (bitN n 2) (bitN n 3) (bitN n 4)) ∧ Below w.heap.size w w' := by
  obtain ⟨h0, h1, h2, h3, h4⟩ := and_bits ⟨n, h⟩
  generalize bitN n 0 = b0 at *
  generalize bitN n 1 = b1 at *
  generalize bitN n 2 = b2 at *
  generalize bitN n 3 = b3 at *
  generalize bitN n 4 = b4 at *
  simp only at h0 h1 h2 h3 h4
  go_enter Tryd.func62, Tryd.ntmps62
  go_wp2
  refine bodyPost_ret (v := feat 0 b0 b1 b2 b3 b4) (by simp [results, Tryd.results62, go_sem]) rfl ?_
  exact ⟨rfl, (Below.refl _ _).alloc (Nat.le_refl _) _⟩

/-- The box of the numbers that are still to come; all that it holds lies from block lo on. -/
def NBox (lo : Nat) (w : World) (bx : Nat) (l : List Nat) : Prop :=
  w.frozen? ⟨bx, 0, none⟩ = false ∧ lo ≤ bx ∧ ∃ g o c, w.cell? ⟨bx, 0, none⟩ = some (.slice (some ⟨g, o, none⟩) l.length c) ∧ l.length ≤ c ∧ c ≤ maxLen ∧ g ≠ bx ∧ lo ≤ g ∧ ∀ j u, (nums l)[j]? = some u → w.cell? ⟨g, o + j, none⟩ = some u
theorem NBox.lt {lo : Nat} {w : World} {bx : Nat} {l : List Nat} (h : NBox lo w bx l) : bx < w.heap.size := by
  obtain ⟨_, _, g, o, c, hc, _⟩ := h
  rcases Nat.lt_or_ge bx w.heap.size with hb | hb
  · exact hb
  · simp [World.cell?, Array.getElem?_eq_none hb] at hc
theorem cell_set_ne {w : World} {b o : Nat} {p : Addr} (u : Value) (h : p.block ≠ b) : (w.setCell p u).cell? ⟨b, o, none⟩ = w.cell? ⟨b, o, none⟩ :=
  World.cell?_of_block (a := ⟨b, o, none⟩) (Below.heap_setCell w p u b (Ne.symm h))
theorem frozen_set_ne {w : World} {b o : Nat} {p : Addr} (u : Value) (h : p.block ≠ b) : (w.setCell p u).frozen? ⟨b, o, none⟩ = w.frozen? ⟨b, o, none⟩ :=
  World.frozen?_of_block (a := ⟨b, o, none⟩) (Below.heap_setCell w p u b (Ne.symm h))
/-- Writes ahead of it leave it. -/
theorem NBox.set {lo : Nat} {w : World} {bx : Nat} {l : List Nat} (h : NBox lo w bx l) {p : Addr} (hp : p.block < lo) (u : Value) : NBox lo (w.setCell p u) bx l := by
  obtain ⟨hf, hlo, g, o, c, hc, h1, h2, h3, h4, h5⟩ := h
  refine ⟨(frozen_set_ne u (by omega)).trans hf, hlo, g, o, c, (cell_set_ne u (by omega)).trans hc, h1, h2, h3, h4, fun j x hx => (cell_set_ne u (by omega)).trans (h5 j x hx)⟩

set_option maxRecDepth 100000 in
set_option maxHeartbeats 1000000 in
theorem next_any (lo bx n : Nat) (l : List Nat) (w : World) (h : NBox lo w bx (n :: l)) :
    Calls Tryd.prog 61 #[.pointer (some ⟨bx, 0, none⟩)] w fun e w' => e = .returned (.int .u64 (n : Int)) ∧ NBox lo w' bx l ∧ Below bx w w' := by
  have hlt := h.lt
  obtain ⟨hf, hlo, g, o, c, hc, h1, h2, h3, h4, h5⟩ := h
  have d0 : w.cell? ⟨g, o, none⟩ = some (.int .u64 (n : Int)) := h5 0 _ rfl
  have hlen : (n :: l).length = l.length + 1 := rfl
  rw [hlen] at hc h1
  have H5 := Lib.hid h5
  clear h5 hlen
  unfold maxLen at h2
  by_cases h : c = 1
  · obtain rfl : l = [] := List.eq_nil_of_length_eq_zero (by omega)
    subst h
    go_enter Tryd.func61, Tryd.ntmps61
    go_wp2
    go_ret
    refine ⟨rfl, ⟨by simp [go_sem, hf], hlo, g, o, 0, by simp [go_sem, hc], Nat.le_refl _, by simp, h3, h4, fun j u hu => by simp [nums] at hu⟩, (Below.refl bx w).setCell (p := ⟨bx, 0, none⟩) (Nat.le_refl bx) _⟩
  · go_enter Tryd.func61, Tryd.ntmps61
    go_wp2
    go_ret
    refine ⟨rfl, ⟨by simp [go_sem, hf], hlo, g, o + 1, c - 1, by simp [go_sem, hc], by omega, by unfold maxLen; omega, h3, h4, fun j u hu => ?_⟩, (Below.refl bx w).setCell (p := ⟨bx, 0, none⟩) (Nat.le_refl bx) _⟩
    rw [cell_set_ne _ (Ne.symm h3)]
    have h6 := H5.out (j + 1) u (by simpa [nums] using hu)
    rwa [show o + (j + 1) = o + 1 + j by omega] at h6
end Go.Proofs.YtpomobeogkfmfaaDoor
