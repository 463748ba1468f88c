/- Walks of package smpdu: Decode. -/
import Derived.Test.YtpomobeogkfmfaaDoorSec9
import Derived.Deep.DeepCutAuto
import Derived.Deep.CutBlock
import Derived.Laws.IdiomCopy
namespace Go.Proofs.YtpomobeogkfmfaaDoor
open Go.RowKit

/-- What a decoding of a PDU leaves. -/
def SDecPost (w : World) (l : List UInt8) (e : Ending) (w' : World) : Prop := e = .returned (.tuple #[secV (decS l), .int .i64 (decSE l)]) ∧ Below w.heap.size w w'

/-- A PDU's box that may be written. -/
def Froz (w : World) (b : Nat) : Prop := ∀ j, j < 13 → w.frozen? ⟨b, j, none⟩ = false
theorem Froz.all {w : World} {b : Nat} (h : Froz w b) : w.frozen? ⟨b, 0, none⟩ = false ∧ w.frozen? ⟨b, 1, none⟩ = false ∧ w.frozen? ⟨b, 2, none⟩ = false ∧ w.frozen? ⟨b, 3, none⟩ = false ∧ w.frozen? ⟨b, 4, none⟩ = false ∧ w.frozen? ⟨b, 5, none⟩ = false ∧
    w.frozen? ⟨b, 6, none⟩ = false ∧ w.frozen? ⟨b, 7, none⟩ = false ∧ w.frozen? ⟨b, 8, none⟩ = false ∧ w.frozen? ⟨b, 9, none⟩ = false ∧ w.frozen? ⟨b, 10, none⟩ = false ∧ w.frozen? ⟨b, 11, none⟩ = false ∧ w.frozen? ⟨b, 12, none⟩ = false :=
  ⟨h 0 (by omega), h 1 (by omega), h 2 (by omega), h 3 (by omega), h 4 (by omega), h 5 (by omega), h 6 (by omega), h 7 (by omega), h 8 (by omega), h 9 (by omega), h 10 (by omega), h 11 (by omega), h 12 (by omega)⟩
theorem Froz.keep {w w' : World} {b B : Nat} (h : Froz w b) (hb : Below B w w') (hB : b < B) : Froz w' b := fun j hj => (blowf hb b j hB).trans (h j hj)
theorem Froz.new (w : World) (cs : Array Value) (t : TypeId) : Froz (w.alloc (.cells cs t)) w.heap.size := by
  intro j _
  simp [go_sem]
theorem sec_lt {w : World} {b : Nat} {p : Sec} (h : SecAt w b p) : b < w.heap.size := by
  have h0 := h.cells.1
  rcases Nat.lt_or_ge b w.heap.size with hb | hb
  · exact hb
  · simp [World.cell?, Array.getElem?_eq_none hb] at h0

/-- A PDU stored into a box. -/
abbrev put13 (w : World) (b : Nat) (p : Sec) : World := w.setCells b 0 (secV p).cells.toList
theorem sec_put {w : World} {b : Nat} {q : Sec} (p : Sec) (h : SecAt w b q) : SecAt (put13 w b p) b p := by
  intro j u hu
  have hl : (secV p).cells.toList.length = 13 := rfl
  have hj : j < (secV p).cells.toList.length := (List.getElem?_eq_some_iff.1 hu).1
  have := World.cell?_setCells_in b (secV p).cells.toList 0 w (fun i hi => by
    have hi' : i < (secV q).cells.toList.length := hi
    rw [Nat.zero_add, h i _ (List.getElem?_eq_getElem hi')]
    rfl) j hj
  rw [Nat.zero_add] at this
  rw [this, ← hu, List.getElem?_eq_getElem hj]
theorem res_sec {fn : Func} {i j : Tmp} (h : fn.results = #[.cell i 53, .tmp j]) (tmps : Array Value) (w : World) (b : Nat) (p : Sec) (hp : tmps.getD i undef = .pointer (some ⟨b, 0, none⟩)) (hs : SecAt w b p) :
    (results fn tmps).run Tryd.prog w = .ok (.tuple #[secV p, tmps.getD j undef]) w := by
  obtain ⟨c0, c1, c2, c3, c4, c5, c6, c7, c8, c9, c10, c11, c12⟩ := hs.cells
  rw [Array.getD_eq_getD_getElem?] at hp
  simp [results, h, hp, go_sem, c0, c1, c2, c3, c4, c5, c6, c7, c8, c9, c10, c11, c12]
theorem below_put {B : Nat} {a w : World} {b : Nat} (p : Sec) (h : Below B a w) (hb : B ≤ b) : Below B a (put13 w b p) := by
  have : ∀ (vs : List Value) (o : Nat) (w : World), Below B a w → Below B a (w.setCells b o vs) := by
    intro vs
    induction vs with
    | nil => intro o w h; exact h
    | cons v vs ih => intro o w h; exact ih _ _ (h.setCell (p := ⟨b, o, none⟩) hb v)
  exact this _ _ _ h

/-- A kind alone. -/
def kindP (k : Int) : Sec := ⟨k, 0, false, false, false, false, false, 0, 0, 0, 0, 0, 0⟩

set_option maxRecDepth 100000 in
set_option maxHeartbeats 1000000 in
theorem sdecode_nil (v : Value) (w : World) (hb : BS w w.heap.size v []) : Calls Tryd.prog 37 #[v] w (SDecPost w []) := by
  obtain ⟨A, c, rfl, _⟩ := id hb
  clear hb
  go_enter Tryd.func37, Tryd.ntmps37
  go_wp2_with fail
  refine bodyPost_ret (v := .tuple #[secV sec0, .int .i64 3]) (by simp [results, Tryd.results37, go_sem, sec0]) rfl ?_
  exact ⟨rfl, al1 _ _⟩

set_option maxRecDepth 100000 in
set_option maxHeartbeats 1000000 in
theorem sdecode_no (a : UInt8) (r : List UInt8) (v : Value) (hl : (a :: r).length ≤ 140737488355328) (h : ¬ hasK (a.toNat : Int) = true) (w : World) (hb : BS w w.heap.size v (a :: r)) : Calls Tryd.prog 37 #[v] w (SDecPost w (a :: r)) := by
  have hE : decSE (a :: r) = 12 := by
    unfold decSE
    rw [if_neg (by simp), if_pos (by simpa [nB] using h)]
  have HE := Lib.hid hE
  have HS := Lib.hid (show decS (a :: r) = sec0 by unfold decS; rw [if_neg (by rw [hE]; decide)])
  obtain ⟨b, o, c, rfl, hB, hn, hcm, d0⟩ := hb.at_ (bys_at (k := 0) (by simp))
  have hB' : b < w.heap.size + 1 := by omega
  have hlt := a.toNat_lt
  have d0' : w.cell? ⟨b, o, none⟩ = some (.int .u8 (a.toNat : Int)) := d0
  have hwr := wri64 (show a.toNat ≤ 9223372036854775807 by omega)
  have C := Lib.hid (used_no (kindP (a.toNat : Int)) h)
  generalize a.toNat = k at *
  clear hE h hb d0
  generalize hN : (a :: r).length = N at *
  have hN0 : 0 < N := by rw [← hN]; simp
  unfold maxLen at hcm
  clear hN
  go_enter Tryd.func37, Tryd.ntmps37
  go_wp2_with fail
  refine (C.out _).mono ?_
  rintro e w1 ⟨rfl, hb1⟩
  have hs := ((SecAt.new w sec0 53).keep (al1 _ (.cells (secV (kindP k)).cells 53)) (by simp)).keep hb1 (by simp; omega)
  have hf := ((Froz.new w (secV sec0).cells 53).keep (al1 _ (.cells (secV (kindP k)).cells 53)) (by simp)).keep hb1 (by simp; omega)
  have hz := sec_lt hs
  obtain ⟨c0, c1, c2, c3, c4, c5, c6, c7, c8, c9, c10, c11, c12⟩ := hs.cells
  obtain ⟨f0, f1, f2, f3, f4, f5, f6, f7, f8, f9, f10, f11, f12⟩ := hf.all
  have HS1 := Lib.hid hs
  have HB1 := Lib.hid (two hb1)
  clear hb1 hs hf
  go_wp2_with fail
  refine bodyPost_ret (res_sec rfl _ _ w.heap.size sec0 rfl ?_) rfl ⟨?_, ?_⟩
  · exact SecAt.keep (show SecAt (put13 w1 w.heap.size sec0) w.heap.size sec0 from sec_put sec0 HS1.out) (al1 _ _) (sec_lt (sec_put sec0 HS1.out))
  · rw [HE.out, HS.out]; rfl
  · exact (below_put sec0 HB1.out (Nat.le_refl _)).alloc (Below.size (below_put sec0 HB1.out (Nat.le_refl _))) _
end Go.Proofs.YtpomobeogkfmfaaDoor
