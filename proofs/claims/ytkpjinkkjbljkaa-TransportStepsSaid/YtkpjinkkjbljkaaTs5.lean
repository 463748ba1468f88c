/- The walk of transport.segment: one segment of a message. No condition. -/
import Derived.Test.YtkpjinkkjbljkaaTs4
import Derived.Test.YtkpjinkkjbljkaaTr8
namespace Go.Proofs.Ytkpjinkkjbljkaa
open Go.RowKit

/-- The head of segment i of a message of n parts. -/
def segL (o : OutS) (i : Nat) : Low := ⟨false, true, o.app, ((o.zero % 8192 : Nat) : Int), (i : Int), (o.parts.length : Int) - 1, 0, 0, false⟩
abbrev outV (o : OutS) (v : Value) : Value := .agg #[.int .u16 (o.dst : Int), .int .u16 (o.src : Int), .bool o.app, .int .u32 (o.zero : Int), .int .u32 (o.iv : Int), v, .int .u32 (o.ackd : Int), .int .i64 o.due, .int .i64 o.tries, .int .i64 o.ttl]
theorem res_low1 {fn : Func} {i : Tmp} (h : fn.results = #[.cell i 25]) (tmps : Array Value) (w : World) (b : Nat) (p : Low) (v : Value) (hp : tmps.getD i undef = .pointer (some ⟨b, 0, none⟩)) (hs : Box w b (lowCs p v)) :
    (results fn tmps).run Try.prog w = .ok (lowV p v) w := by
  obtain ⟨c0, c1, c2, c3, c4, c5, c6, c7, c8, c9⟩ := low_box hs
  rw [Array.getD_eq_getD_getElem?] at hp
  simp [results, h, hp, go_sem, c0, c1, c2, c3, c4, c5, c6, c7, c8, c9]
/-- What segment leaves. -/
def SegPost (w : World) (o : OutS) (i : Nat) (e : Ending) (w' : World) : Prop :=
  Below w.heap.size w w' ∧ ∃ v, e = .returned (lowV (segL o i) v) ∧ OB w' w.heap.size v (o.parts.getD i [])
set_option maxRecDepth 100000 in
set_option maxHeartbeats 4000000 in
theorem segment_any (o : OutS) (i : Nat) (hi : i < o.parts.length) (hl : o.parts.length ≤ 65536) (hp : ∀ p ∈ o.parts, p.length ≤ 65536) (hz : o.zero < 4294967296) (v : Value) (w : World) (h : PartsV w w.heap.size v o.parts) :
    Calls Try.prog 44 #[outV o v, .int .i64 (i : Int)] w (SegPost w o i) := by
  obtain ⟨us, hul, hs, hps⟩ := h
  obtain ⟨A, c, rfl, hnc, hcm, hcl, _⟩ := id hs
  have hiu : i < us.length := by omega
  have hbp := hps.2 i _ _ (List.getElem?_eq_getElem hiu) (List.getElem?_eq_getElem hi)
  obtain ⟨bb, off, rfl, hbB, hcell⟩ := hs.cells (List.getElem?_eq_getElem hiu)
  have hc0 := hcell _ _ (List.getElem?_eq_getElem hiu)
  have hpl := hp _ (List.getElem_mem hi)
  have HX := Lib.hid (show ∀ (w' : World) (u : Value), Below w.heap.size w w' → OB w' w.heap.size u o.parts[i] → SegPost w o i (.returned (lowV (segL o i) u)) w' from fun w' u h1 h2 => ⟨h1, u, rfl, by rw [List.getD_eq_getElem?_getD, List.getElem?_eq_getElem hi]; exact h2⟩)
  have HS := Lib.hid (show segL o i = ⟨false, true, o.app, ((o.zero % 8192 : Nat) : Int), (i : Int), (o.parts.length : Int) - 1, 0, 0, false⟩ from rfl)
  generalize hQ : SegPost w o i = Q at *
  generalize segL o i = sg at *
  generalize o.parts[i] = pk at *
  obtain ⟨A2, c2, hform, _⟩ := id hbp
  rw [hform] at hc0 hbp
  have HB := Lib.hid hbp
  clear hQ hul hs hps hcl hcell hform hbp hp
  obtain ⟨o0, o1, o2, o3, o4, o5, o6, o7, o8, o9⟩ := o
  dsimp only at *
  generalize o5.length = n at *
  have hw1 : IntKind.i64.wrap ((n : Int) - 1) = (n : Int) - 1 := IntWalk.i64_in _ (by omega)
  have hw2 : IntKind.i64.wrap (((o3 % 8192 : Nat) : Int)) = ((o3 % 8192 : Nat) : Int) := IntWalk.i64_in _ (by omega)
  have ht : ((o3 : Int).tmod 8192) = ((o3 % 8192 : Nat) : Int) := by rw [Int.tmod_eq_emod_of_nonneg (by omega)]; omega
  generalize hzz : o3 % 8192 = z at *
  have HZ := Lib.hid hzz
  clear hzz
  go_enter Try.func44, Try.ntmps44
  go_wp2_with fail
  obtain ⟨W, hW⟩ : ∃ W, W = (w.alloc (.cells #[.int .u16 (o0 : Int), .int .u16 (o1 : Int), .bool o2, .int .u32 (o3 : Int), .int .u32 (o4 : Int), .slice (some ⟨bb, off, none⟩) n c, .int .u32 (o6 : Int), .int .i64 o7, .int .i64 o8, .int .i64 o9] 75)).alloc (.cells #[.bool false, .bool false, .bool false, .int .i64 0, .int .i64 0, .int .i64 0, .int .i64 0, .int .u32 0, .bool false, .slice none 0 0] 25) := ⟨_, rfl⟩
  have hA : Below w.heap.size w W := by rw [hW]; exact al2 _ _ _
  have hb0 : Box W w.heap.size (outCs ⟨o0, o1, o2, o3, o4, o5, o6, o7, o8, o9⟩ (.slice (some ⟨bb, off, none⟩) n c)) := by rw [hW]; exact (Box.new _ _ _).alloc _
  have hb1 : Box W (w.heap.size + 1) (lowCs low0 (.slice none 0 0)) := ⟨25, by rw [hW, heap_al, if_pos (by simp)]; rfl⟩
  rw [← hW]
  clear hW
  have HSW := Lib.hid (fun W' (hW' : Below W.heap.size W W') => HB.out.on (hA.trans (hW'.mono hA.size)))
  have b2 := hb0.cell (j := 2) rfl
  have b3 := hb0.cell (j := 3) rfl
  have b5 := hb0.cell (j := 5) rfl
  have hc1 := (hA.cell (p := ⟨bb, off + i, none⟩) hbB).trans hc0
  have z0 := hb0.lt
  have z1 := hb1.lt
  have zb : bb < W.heap.size := by omega
  have n0 : bb ≠ w.heap.size + 1 := by omega
  have n1 : w.heap.size + 1 ≠ bb := by omega
  obtain ⟨f0, f1, f2, f3, f4, f5, f6, f7, f8, f9⟩ := low_free hb1
  obtain ⟨k0, k1, k2, k3, k4, k5, k6, k7, k8, k9⟩ := low_box hb1
  dsimp only [low0] at k0 k1 k2 k3 k4 k5 k6 k7 k8
  have HA := Lib.hid hA
  have H1 := Lib.hid hb1
  clear hA hb0 hb1 hc0
  go_region_held3 (fun w' => w'.cell? ⟨w.heap.size, 2, none⟩ = some (.bool o2) ∧ w'.cell? ⟨w.heap.size, 3, none⟩ = some (.int .u32 (o3 : Int)) ∧ w'.cell? ⟨w.heap.size, 5, none⟩ = some (.slice (some ⟨bb, off, none⟩) n c) ∧ w'.cell? ⟨bb, off + i, none⟩ = some (.slice A2 pk.length c2)) (go_keep)
    (first
      | (go_at_call 35; refine (join1 _ pk W.drew (HSW.out _ ((Below.refl _ _).drew)) (by omega) _).mono ?_; rintro e w3 ⟨hb3', u, rfl, hu⟩
         have hb3 : Below W.heap.size W w3 := ((Below.refl _ _).drew).trans hb3'
         have hc3 := bfar W.heap.size hb3 (Nat.le_refl _)
         have hff3 := blowf hb3
         have hz3 : W.heap.size ≤ w3.heap.size := hb3.size
         obtain ⟨A3, c3, rfl⟩ := own_slice hu))
  have HB3 := Lib.hid hb3
  have HU3 := Lib.hid (show OB w3 w.heap.size (.slice A3 pk.length c3) pk from own_base hu (by show w.heap.size ≤ W.heap.size; omega))
  have H3 := Lib.hid (H1.out.on hb3)
  have HN := Lib.hid (show w.heap.size + 1 < W.heap.size from z1)
  have HU4 := Lib.hid (show w3.ownsRow W.heap.size 5 1 (.slice A3 pk.length c3) pk.length (bys pk) from hu)
  obtain rfl := HS.out
  clear hu hb3 hb3' hc3 hff3 hz3 f0 f1 f2 f3 f4 f5 f6 f7 f8 f9 k0 k1 k2 k3 k4 k5 k6 k7 k8 k9 b2 b3 b5 hc1 z0 z1 zb n0 n1
  go_wp2_with fail
  refine bodyPost_ret (res_low1 rfl _ _ (w.heap.size + 1) ⟨false, true, o2, (z : Int), (i : Int), (n : Int) - 1, 0, 0, false⟩ (.slice A3 pk.length c3) rfl ?_) rfl (HX.out _ _ ?_ ?_)
  · exact H3.out.put (lowCs ⟨false, true, o2, (z : Int), (i : Int), (n : Int) - 1, 0, 0, false⟩ (.slice A3 pk.length c3)) rfl
  · exact below_puts (b := w.heap.size + 1) (Nat.le_succ _) 0 (lowCs ⟨false, true, o2, (z : Int), (i : Int), (n : Int) - 1, 0, 0, false⟩ (.slice A3 pk.length c3)) (HA.out.trans (HB3.out.mono HA.out.size))
  · exact own_base (own_puts HU4.out (b := w.heap.size + 1) (fun g hg => by have := (HU4.out.lt g hg).1; have := HN.out; omega) 0 (lowCs ⟨false, true, o2, (z : Int), (i : Int), (n : Int) - 1, 0, 0, false⟩ (.slice A3 pk.length c3))) HA.out.size
end Go.Proofs.Ytkpjinkkjbljkaa
