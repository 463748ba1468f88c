/- Walks of package address: Decode. -/
import Derived.Test.YtpomobeogkfmfaaDoorAdr17
namespace Go.Proofs.YtpomobeogkfmfaaDoor
open Go.RowKit

/-- The address at the beginning of bytes. -/
def dcK (l : List UInt8) : Int := ((l.getD 0 0).toNat : Int)
def dcX (l : List UInt8) : Nat := leVal ((l.drop 1).take 6)
/-- The error of a decoding. -/
def decE (l : List UInt8) : Int := if l.length < 7 then 3 else chkA (dcK l) (dcX l)
/-- What a decoding of an address leaves. -/
def DecPost (w : World) (l : List UInt8) (e : Ending) (w' : World) : Prop :=
  Below w.heap.size w w' ∧ (decE l = 0 → ∃ v, e = .returned (.tuple #[adr (dcK l) (dcX l), v, .int .i64 0]) ∧ w'.ownsRow w.heap.size 5 1 v (l.length - 7) (bys (l.drop 7))) ∧
    (decE l ≠ 0 → e = .returned (.tuple #[adr 0 0, .slice none 0 0, .int .i64 (decE l)]))
theorem take_dec (l : List UInt8) : takeE l [1, 6] = if l.length < 7 then 3 else 0 := rfl
theorem offs_dec : offs [1, 6] 2 = 7 := rfl
theorem takeV_dec (l : List UInt8) (h : 7 ≤ l.length) : takeV l [1, 6] 2 = [(l.getD 0 0).toNat, dcX l] := by
  match l, h with
  | a :: l, h =>
    show [leVal ((a :: l).drop 0 |>.take 1), leVal (((a :: l).drop 1).take 6)] = _
    simp [leVal, dcX]
theorem dcX_lt (l : List UInt8) : dcX l < 281474976710656 := by
  have h := leVal_lt ((l.drop 1).take 6)
  have h2 : 2 ^ (8 * ((l.drop 1).take 6).length) ≤ 2 ^ 48 := Nat.pow_le_pow_right (by omega) (by have := List.length_take_le 6 (l.drop 1); omega)
  exact Nat.lt_of_lt_of_le h h2

theorem own_far {w : World} {base : Nat} {e : TypeId} {size n : Nat} {v : Value} {xs : List Value} (h : w.ownsRow base e size v n xs) {p : Addr} (hp : p.block < base) (u : Value) : (w.setCell p u).ownsRow base e size v n xs := by
  obtain ⟨h1, h2⟩ := h
  refine ⟨h1, ?_⟩
  rcases h2 with h2 | ⟨g, cap, cur, hv, hg, hh, r⟩
  · exact .inl h2
  · refine .inr ⟨g, cap, cur, hv, hg, ?_, r⟩
    rw [Below.heap_setCell w p u g (by omega)]
    exact hh

set_option maxRecDepth 100000 in
set_option maxHeartbeats 4000000 in
theorem decode_any (l : List UInt8) (v : Value) (hl : l.length ≤ 140737488355328) (w : World) (hb : BS w w.heap.size v l) (hT : ATab w) : Calls Tryd.prog 30 #[v] w (DecPost w l) := by
  have HB := Lib.hid hb
  have HT := Lib.hid hT
  clear hb hT
  go_enter Tryd.func30, Tryd.ntmps30
  go_wp2_with fail
  refine (take_v v _ l [1, 6] (HB.out.on (al2 w _ _)) ?_ hl (by simp)).mono ?_
  · have h := Sl.lit (size := 1) (w.alloc (.cells #[.int .i64 0, .int .u64 0] 24)) #[.int .i64 1, .int .i64 6] 3 2 rfl (by simp [maxLen])
    rw [show (w.alloc (.cells #[.int .i64 0, .int .u64 0] 24)).heap.size = w.heap.size + 1 by simp] at h
    exact Sl.more h (by simp)
  intro e w1 hh
  obtain ⟨hb1, h0, h1⟩ := hh
  obtain ⟨hcl, hfr⟩ := bcell hb1
  obtain ⟨hz1, hz2⟩ := sz2 hb1
  have q0 : w1.cell? ⟨w.heap.size, 0, none⟩ = some (.int .i64 0) := by
    rw [hcl w.heap.size 0 (by simp; omega)]
    simp [go_sem]
  have q1 : w1.cell? ⟨w.heap.size, 1, none⟩ = some (.int .u64 0) := by
    rw [hcl w.heap.size 1 (by simp; omega)]
    simp [go_sem]
  have f0 : w1.frozen? ⟨w.heap.size, 0, none⟩ = false := by
    rw [hfr w.heap.size 0 (by simp; omega)]
    simp [go_sem]
  have f1 : w1.frozen? ⟨w.heap.size, 1, none⟩ = false := by
    rw [hfr w.heap.size 1 (by simp; omega)]
    simp [go_sem]
  have HB1 := Lib.hid (two hb1)
  by_cases hs : l.length < 7
  · have ht : takeE l [1, 6] = 3 := by rw [take_dec, if_pos hs]
    obtain rfl := h1 (by rw [ht]; decide)
    rw [ht]
    have HD := Lib.hid (show decE l = 3 by unfold decE; rw [if_pos hs])
    clear h0 h1 hcl hfr hb1 ht hs
    go_wp2_with fail
    refine bodyPost_ret (v := .tuple #[adr 0 0, .slice none 0 0, .int .i64 3]) (by simp [results, Tryd.results30, go_sem, q0, q1]) rfl ?_
    exact ⟨(HB1.out.setCell (Nat.le_refl _) _).setCell (Nat.le_refl _) _, fun h => absurd (HD.out.symm.trans h) (by decide), fun _ => by rw [HD.out]⟩
  · have ht : takeE l [1, 6] = 0 := by rw [take_dec, if_neg hs]
    obtain ⟨x, u, rfl, hx, hu, hne⟩ := h0 ht
    rw [show ([1, 6] : List Int).length = 2 from rfl] at hx hu
    rw [takeV_dec l (by omega)] at hx
    rw [offs_dec, List.length_drop] at hu
    obtain ⟨g, c, rfl⟩ : ∃ g c, x = .slice (some ⟨g, 0, none⟩) 2 c := by
      rcases hx.2 with ⟨e1, e2⟩ | ⟨g, cap, cur, e, _⟩
      · cases e2
      · exact ⟨g, cap, e⟩
    have c0 := hx.cellAt 0 (by omega)
    have c1 := hx.cellAt 1 (by omega)
    have hg := hx.lt g rfl
    have hlt := (l.getD 0 0).toNat_lt
    have hx48 := dcX_lt l
    have HD := Lib.hid (show decE l = chkA (dcK l) (dcX l) by unfold decE; rw [if_neg hs])
    have HKX := Lib.hid (show dcK l = ((l.getD 0 0).toNat : Int) from rfl)
    generalize (l.getD 0 0).toNat = kk at *
    generalize hyd : dcX l = y at *
    have HX := Lib.hid hyd
    clear hyd
    have c0' : w1.cell? ⟨g, 0, none⟩ = some (.int .u64 (kk : Int)) := c0
    have c1' : w1.cell? ⟨g, 1, none⟩ = some (.int .u64 (y : Int)) := c1
    have hg2 : g < w1.heap.size := hg.2
    have hk : kk ≤ 255 := by omega
    have hwr : IntKind.i64.wrap (kk : Int) = (kk : Int) := IntWalk.i64_in _ (by omega)
    have HU := Lib.hid hu
    clear h0 h1 hcl hfr hb1 ht hs c0 c1 hx hu hne hg hlt
    go_wp2_with fail
    go_region_held3 (fun w' => w'.cell? ⟨g, 0, none⟩ = some (.int .u64 (kk : Int)) ∧ w'.cell? ⟨g, 1, none⟩ = some (.int .u64 (y : Int))) (go_keep) (fail)
    have hbA : Below w.heap.size w ((w1.alloc (.cells #[.int .i64 (kk : Int), .int .u64 (y : Int)] 24)).drew) := (HB1.out.alloc HB1.out.size _).drew
    have hsA : ((w1.alloc (.cells #[.int .i64 (kk : Int), .int .u64 (y : Int)] 24)).drew).heap.size = w1.heap.size + 1 := by simp
    go_wp2_with fail
    refine (check_any kk y _ (HT.out.keep hbA)).mono ?_
    rintro e w2 ⟨rfl, hb2⟩
    obtain ⟨hcl, hfr⟩ := bcell hb2
    rw [hsA] at hcl hfr
    have hz3 : w.heap.size < w1.heap.size + 1 := by omega
    have p0 : w2.cell? ⟨w.heap.size, 0, none⟩ = some (.int .i64 0) := by rw [hcl w.heap.size 0 (by omega)]; simp [go_sem, q0, hz1]
    have p1 : w2.cell? ⟨w.heap.size, 1, none⟩ = some (.int .u64 0) := by rw [hcl w.heap.size 1 (by omega)]; simp [go_sem, q1, hz1]
    have g0 : w2.frozen? ⟨w.heap.size, 0, none⟩ = false := by rw [hfr w.heap.size 0 (by omega)]; simp [go_sem, f0, hz1]
    have g1 : w2.frozen? ⟨w.heap.size, 1, none⟩ = false := by rw [hfr w.heap.size 1 (by omega)]; simp [go_sem, f1, hz1]
    have p2 : w2.cell? ⟨w1.heap.size, 0, none⟩ = some (.int .i64 (kk : Int)) := by rw [hcl w1.heap.size 0 (by omega)]; simp [go_sem]
    have p3 : w2.cell? ⟨w1.heap.size, 1, none⟩ = some (.int .u64 (y : Int)) := by rw [hcl w1.heap.size 1 (by omega)]; simp [go_sem]
    have HB2 := Lib.hid (hbA.trans (hb2.mono (by rw [hsA]; omega)))
    have HU2 := Lib.hid (own_on (own_on HU.out ((al1 w1 (.cells #[.int .i64 (kk : Int), .int .u64 (y : Int)] 24)).drew)) hb2)
    clear hcl hfr hbA hsA hb2 q0 q1 f0 f1 c0' c1' HB1 HU
    have HK2 := Lib.hid (show chkA (dcK l) y = chkA (kk : Int) y by rw [HKX.out])
    by_cases hc : chkA (kk : Int) y = 0
    · have HC := Lib.hid hc
      rw [hc]
      clear hc
      go_wp2_with fail
      refine bodyPost_ret (v := .tuple #[adr kk y, u, .int .i64 0]) (by simp [results, Tryd.results30, go_sem, p0, p1]) rfl ?_
      refine ⟨(HB2.out.setCell (Nat.le_refl _) _).setCell (Nat.le_refl _) _, fun _ => ⟨u, by rw [HKX.out, HX.out], ?_⟩, fun h => absurd ((HD.out.trans HK2.out).trans HC.out) h⟩
      exact own_base (own_far (own_far HU2.out (by simp; omega) _) (by simp; omega) _) (by simp; omega)
    · have hc' := ne_bool hc
      have HC := Lib.hid hc
      clear hc
      generalize hcd : chkA (kk : Int) y = cc at *
      have HCD := Lib.hid hcd
      clear hcd
      go_wp2_with fail
      refine bodyPost_ret (v := .tuple #[adr 0 0, .slice none 0 0, .int .i64 cc]) (by simp [results, Tryd.results30, go_sem, p0, p1]) rfl ?_
      exact ⟨(HB2.out.setCell (Nat.le_refl _) _).setCell (Nat.le_refl _) _, fun h => absurd ((HK2.out.symm.trans HD.out.symm).trans h) HC.out, fun _ => by rw [HD.out, HK2.out]⟩
end Go.Proofs.YtpomobeogkfmfaaDoor
