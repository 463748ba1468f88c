/- The walk of transport.Send at a message that is too long. No condition. -/
import Derived.Test.YtkpjinkkjbljkaaTwQ
namespace Go.Proofs.Ytkpjinkkjbljkaa
open Go.RowKit

set_option maxRecDepth 100000 in
set_option maxHeartbeats 8000000 in
theorem send_big (os : List OutS) (is : List InS) (a : AccS) (l : List UInt8) (now : Int) (hl : l.length ≤ 9223372036854775807) (hbig : 384 < l.length) (hs : a.seq < 4294967296) (v u bv : Value) (w : World) (hv : RowV outCs 10 OutS.parts w w.heap.size v os) (hu : RowV inCs 11 InS.parts w w.heap.size u is) (hbv : BS w w.heap.size bv l)
    (ho : Sized (os.map OutS.parts)) (hi : Sized (is.map InS.parts)) : Calls Try.prog 22 #[.agg #[v, u], accV a bv, .int .i64 now] w (SendPost os is a l now w) := by
  obtain ⟨A1, c1, rfl⟩ := rowV_form hv
  obtain ⟨A2, c2, rfl⟩ := rowV_form hu
  obtain ⟨A, c, rfl, _⟩ := id hbv
  have hoN : os.length ≤ 65536 := by have := ho.1; simpa using this
  have CR := Lib.hid (fun (W : World) (hW : Below w.heap.size w W) => refuse_any os a A l.length c (by omega) hs (.slice A1 os.length c1) (.slice A2 is.length c2) W (hv.on hW) hoN ⟨_, _, _, rfl⟩)
  have CL := Lib.hid (fun (W : World) (hW : Below w.heap.size w W) => clone_any os is (.slice A1 os.length c1) (.slice A2 is.length c2) W (hv.on hW) (hu.on hW) ho hi)
  have HBV := Lib.hid hbv
  have HR := Lib.hid (show refuseN os a l.length = refuseN os a l.length from rfl)
  have HQ := Lib.hid (show ∀ (e : Ending) (w' : World), (Below w.heap.size w w' ∧ ∃ v u x, e = .returned (.tuple #[.agg #[v, u], x, .int .i64 (refuseN os a l.length)]) ∧
    RowV2 outCs 10 OutS.parts w' w.heap.size w'.heap.size v (sendO os a l now) ∧ RowV2 inCs 11 InS.parts w' w.heap.size w'.heap.size u is ∧ LowsV2 w' w.heap.size w'.heap.size x (sendL os a l now)) → SendPost os is a l now w e w' from fun _ _ h => h)
  have HSO := Lib.hid (show sendO os a l now = if refuseN os a l.length = 0 ∧ 15 < l.length then os ++ [mOut a l now] else os from rfl)
  have HSL := Lib.hid (show sendL os a l now = if refuseN os a l.length ≠ 0 then [] else if l.length ≤ 15 then [(⟨false, false, a.app, 0, 0, 0, 0, 0, false⟩, l)] else segs a l now (cntP l) from rfl)
  have hR : refuseN os a l.length ≠ 0 := fun h => by have := (refuse_ok h).1; omega
  generalize hQ : SendPost os is a l now w = Q at *
  generalize refuseN os a l.length = R at *
  generalize sendO os a l now = SO at *
  generalize sendL os a l now = SL at *
  generalize hN : os.length = N at *
  generalize hM : is.length = M at *
  generalize hn : l.length = n at *
  have HN := Lib.hid hN
  have HM := Lib.hid hM
  have Hn := Lib.hid hn
  clear hQ hN hM hn hv hu hbv ho hi HR
  obtain ⟨src, dst, app, ttl, ssrc, iv, seq⟩ := a
  go_enter Try.func22, Try.ntmps22
  go_upto_region 1 with fail
  dsimp only at hs
  obtain ⟨W, hW⟩ : ∃ W, W = ((w.alloc (.cells #[.slice A1 N c1, .slice A2 M c2] 47)).alloc (.cells #[.int .u16 (src : Int), .int .u16 (dst : Int), .bool app, .int .i64 ttl, .int .u16 (ssrc : Int), .int .u32 (iv : Int), .int .u32 (seq : Int), .slice A n c] 43)).alloc (.cells #[.slice none 0 0, .slice none 0 0] 47) := ⟨_, rfl⟩
  have hA : Below w.heap.size w W := by rw [hW]; exact al3 _ _ _ _
  have hb0 : Box W w.heap.size [.slice A1 N c1, .slice A2 M c2] := by rw [hW]; exact ((Box.new _ _ _).alloc _).alloc _
  have hb1 : Box W (w.heap.size + 1) (accCs ⟨src, dst, app, ttl, ssrc, iv, seq⟩ (.slice A n c)) := ⟨43, by rw [hW, heap_al, if_neg (by simp), heap_al, if_pos (by simp)]⟩
  have hb2 : Box W (w.heap.size + 1 + 1) [.slice none 0 0, .slice none 0 0] := ⟨47, by rw [hW, heap_al, if_pos (by simp)]⟩
  rw [← hW]
  clear hW
  have HA := Lib.hid hA
  have H0 := Lib.hid hb0
  have H1 := Lib.hid hb1
  have H2 := Lib.hid hb2
  have p0 := hb0.cell (j := 0) rfl
  have p1 := hb0.cell (j := 1) rfl
  have q0 := hb1.cell (j := 0) rfl
  have q1 := hb1.cell (j := 1) rfl
  have q2 := hb1.cell (j := 2) rfl
  have q3 := hb1.cell (j := 3) rfl
  have q4 := hb1.cell (j := 4) rfl
  have q5 := hb1.cell (j := 5) rfl
  have q6 := hb1.cell (j := 6) rfl
  have q7 := hb1.cell (j := 7) rfl
  dsimp only at q0 q1 q2 q3 q4 q5 q6
  clear hA hb0 hb1 hb2
  go_wp2_with fail
  refine (CR.out _ HA.out).mono ?_
  rintro e w1 ⟨rfl, hb1⟩
  have HA1 := Lib.hid (HA.out.trans (hb1.mono HA.out.size))
  have H01 := Lib.hid (H0.out.on hb1)
  have H11 := Lib.hid (H1.out.on hb1)
  have H21 := Lib.hid (H2.out.on hb1)
  clear hb1 p0 p1 q0 q1 q2 q3 q4 q5 q6 q7 HA H0 H1 H2
  have p0 := H01.out.cell (j := 0) rfl
  have p1 := H01.out.cell (j := 1) rfl
  go_wp2_with fail
  refine (CL.out _ HA1.out).mono ?_
  rintro e w2 ⟨hb2, g, h, rfl, hog, hoh⟩
  rw [HN.out] at hog
  rw [HM.out] at hoh
  have HA2 := Lib.hid (HA1.out.trans (hb2.mono HA1.out.size))
  have H02 := Lib.hid (H01.out.on hb2)
  have H12 := Lib.hid (H11.out.on hb2)
  have H22 := Lib.hid (H21.out.on hb2)
  have HLT := Lib.hid H21.out.lt
  have HOG := Lib.hid hog
  have HOH := Lib.hid hoh
  clear hb2 hog hoh p0 p1 HA1 H01 H11 H21
  have p0 := H02.out.cell (j := 0) rfl
  have p1 := H02.out.cell (j := 1) rfl
  have f0 := H02.out.free 0
  have f1 := H02.out.free 1
  have z0 := H02.out.lt
  rw [HN.out, HM.out]
  go_upto_region 3 with fail
  obtain ⟨W3, hW3⟩ : ∃ W3, W3 = (w2.setCell ⟨w.heap.size, 0, none⟩ (.slice (some ⟨g, 0, none⟩) N N)).setCell ⟨w.heap.size, 1, none⟩ (.slice (some ⟨h, 0, none⟩) M M) := ⟨_, rfl⟩
  have H03 := Lib.hid (show Box W3 w.heap.size [.slice (some ⟨g, 0, none⟩) N N, .slice (some ⟨h, 0, none⟩) M M] by rw [hW3]; exact H02.out.put [.slice (some ⟨g, 0, none⟩) N N, .slice (some ⟨h, 0, none⟩) M M] rfl)
  have H13 := Lib.hid (show Box W3 (w.heap.size + 1) (accCs ⟨src, dst, app, ttl, ssrc, iv, seq⟩ (.slice A n c)) by rw [hW3]; exact H12.out.puts_far (by omega) 0 [.slice (some ⟨g, 0, none⟩) N N, .slice (some ⟨h, 0, none⟩) M M])
  have H23 := Lib.hid (show Box W3 (w.heap.size + 1 + 1) [.slice none 0 0, .slice none 0 0] by rw [hW3]; exact H22.out.puts_far (by omega) 0 [.slice (some ⟨g, 0, none⟩) N N, .slice (some ⟨h, 0, none⟩) M M])
  have HA3 := Lib.hid (show Below w.heap.size w W3 by rw [hW3]; exact below_puts (b := w.heap.size) (Nat.le_refl _) 0 [.slice (some ⟨g, 0, none⟩) N N, .slice (some ⟨h, 0, none⟩) M M] HA2.out)
  have HG3 := Lib.hid (show OwnRow outCs 10 OutS.parts 75 W3 (w.heap.size + 3) (.slice (some ⟨g, 0, none⟩) N N) os by rw [hW3]; exact OwnRow.low (ownRow_far (ownRow_far HOG.out (by have := HLT.out; omega) 0 _) (by have := HLT.out; omega) 1 _) (by have := HLT.out; omega))
  have HH3 := Lib.hid (show OwnRow inCs 11 InS.parts 95 W3 (w.heap.size + 3) (.slice (some ⟨h, 0, none⟩) M M) is by rw [hW3]; exact OwnRow.low (ownRow_far (ownRow_far HOH.out (by have := HLT.out; omega) 0 _) (by have := HLT.out; omega) 1 _) (by have := HLT.out; omega))
  rw [← hW3]
  clear hW3 p0 p1 f0 f1 z0 HA2 H02 H12 H22 HLT HOG HOH CL CR
  have p0 := H03.out.cell (j := 0) rfl
  have p1 := H03.out.cell (j := 1) rfl
  have z0 := H03.out.lt
  have z2 := H23.out.lt
  have e0 := H23.out.cell (j := 0) rfl
  have e1 := H23.out.cell (j := 1) rfl
  have f0 := H23.out.free 0
  have f1 := H23.out.free 1
  have hR' := ne_bool hR
  have HSO1 := Lib.hid (show SO = os by rw [HSO.out, if_neg (fun h => hR h.1)])
  have HSL1 := Lib.hid (show SL = [] by rw [HSL.out, if_pos hR])
  clear hR HSO HSL
  go_wp2_with fail
  refine bodyPost_ret (res_tr3 rfl _ _ (w.heap.size + 1 + 1) (.slice (some ⟨g, 0, none⟩) N N) (.slice (some ⟨h, 0, none⟩) M M) rfl ?_) rfl (HQ.out _ _ ⟨?_, _, _, _, rfl, ?_, ?_, ?_⟩)
  · exact H23.out.put [.slice (some ⟨g, 0, none⟩) N N, .slice (some ⟨h, 0, none⟩) M M] rfl
  · exact below_puts (b := w.heap.size + 1 + 1) (by omega) 0 [.slice (some ⟨g, 0, none⟩) N N, .slice (some ⟨h, 0, none⟩) M M] HA3.out
  · rw [HSO1.out]; exact (ownRow_far (ownRow_far HG3.out (by omega) 0 _) (by omega) 1 _).upto (by omega)
  · exact (ownRow_far (ownRow_far HH3.out (by omega) 0 _) (by omega) 1 _).upto (by omega)
  · rw [HSL1.out]; exact ManyV2.nil _ _ _
end Go.Proofs.Ytkpjinkkjbljkaa
