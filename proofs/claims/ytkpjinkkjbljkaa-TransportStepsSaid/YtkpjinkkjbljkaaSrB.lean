/- The reference: Send. -/
import Derived.Test.YtkpjinkkjbljkaaSrA
import Derived.Test.YtkpjinkkjbljkaaTs7
import Derived.Deep.RegionHeld3
namespace Go.Proofs.Ytkpjinkkjbljkaa
open Go.RowKit

/-- What the reference's Send leaves. -/
def RSendPost (os : List OutS) (is : List InS) (a : AccS) (l : List UInt8) (now : Int) (w : World) (e : Ending) (w' : World) : Prop :=
  Below w.heap.size w w' ∧ ∃ v u x, e = .returned (.tuple #[.agg #[v, u], x, .int .i64 (refuseN os a l.length)]) ∧
    RowV outCs 10 OutS.parts w' w'.heap.size v (sendO os a l now) ∧ RowV inCs 11 InS.parts w' w'.heap.size u is ∧ LowsV w' w'.heap.size x (sendL os a l now)
theorem rsend_same {os : List OutS} {is : List InS} {a : AccS} {l : List UInt8} {now : Int} {w : World} {v u : Value} {R : Int} (hR : refuseN os a l.length = R) (hR0 : R ≠ 0) (hv : RowV outCs 10 OutS.parts w w.heap.size v os) (hu : RowV inCs 11 InS.parts w w.heap.size u is) (e : Ending) (w' : World) (he : e = .returned (.tuple #[.agg #[v, u], .slice none 0 0, .int .i64 R])) (hb : Below w.heap.size w w') :
    RSendPost os is a l now w e w' := by
  subst he
  refine ⟨hb, v, u, _, by rw [hR], ?_, hu.on hb, ?_⟩
  · unfold sendO
    rw [if_neg (by rw [hR]; exact fun h => hR0 h.1)]
    exact hv.on hb
  · unfold sendL
    rw [if_pos (by rw [hR]; exact hR0)]
    exact LowsV.nil _ _
set_option maxRecDepth 100000 in
set_option maxHeartbeats 4000000 in
theorem rsend_bad (os : List OutS) (is : List InS) (a : AccS) (l : List UInt8) (now : Int) (hl : l.length ≤ 65536) (v u bv : Value) (w : World) (hv : RowV outCs 10 OutS.parts w w.heap.size v os) (hu : RowV inCs 11 InS.parts w w.heap.size u is) (hbv : BS w w.heap.size bv l) (hb : badHead a l.length = true) :
    Calls Try.prog 48 #[.agg #[v, u], accV a bv, .int .i64 now] w (RSendPost os is a l now w) := by
  obtain ⟨A1, c1, rfl⟩ := rowV_form hv
  obtain ⟨A2, c2, rfl⟩ := rowV_form hu
  obtain ⟨A, c, rfl, _⟩ := id hbv
  have HOK := Lib.hid (rsend_same (now := now) (R := 1) (show refuseN os a l.length = 1 by unfold refuseN; rw [if_pos hb]) (by omega) hv hu)
  generalize RSendPost os is a l now w = Q at *
  clear hv hu hbv
  generalize os.length = N at *
  generalize is.length = M at *
  generalize l.length = n at *
  obtain ⟨src, dst, app, ttl, ssrc, iv, seq⟩ := a
  have C1 := Lib.hid (rnode_any src)
  have C2 := Lib.hid (rnode_any dst)
  have C3 := Lib.hid (rgroup_any dst)
  simp only [badHead] at hb
  generalize isNode src = b1 at *
  generalize isNode dst = b2 at *
  generalize isGroup dst = b3 at *
  have hgt : decide (15 < (n : Int)) = decide (15 < n) := by rw [Bool.eq_iff_iff]; simp; omega
  generalize decide (15 < n) = gt at *
  obtain ⟨q0, hq0, hq1⟩ : ∃ q0 : Bool, ((n : Int) == 0) = q0 ∧ decide (n = 0) = q0 := ⟨_, rfl, by rw [Bool.eq_iff_iff]; simp⟩
  rw [hq1] at hb
  rcases q0 with _ | _ <;> rcases b1 with _ | _ <;> rcases b2 with _ | _ <;> rcases b3 with _ | _
  all_goals try (exfalso; revert hb; decide)
  all_goals
    clear hb hq1 hl
    go_enter Try.func48, Try.ntmps48
    go_upto_region 1 with fail
    obtain ⟨W, hW⟩ : ∃ W, W = ((w.alloc (.cells #[.slice A1 N c1, .slice A2 M c2] 47)).alloc (.cells #[.int .u16 (src : Int), .int .u16 (dst : Int), .bool app, .int .i64 ttl, .int .u16 (ssrc : Int), .int .u32 (iv : Int), .int .u32 (seq : Int), .slice A n c] 43)).alloc (.cells #[.slice none 0 0, .slice none 0 0] 47) := ⟨_, rfl⟩
    have hA : Below w.heap.size w W := by rw [hW]; exact al3 _ _ _ _
    have hb0 : Box W w.heap.size [.slice A1 N c1, .slice A2 M c2] := by rw [hW]; exact ((Box.new _ _ _).alloc _).alloc _
    have hb1 : Box W (w.heap.size + 1) (accCs ⟨src, dst, app, ttl, ssrc, iv, seq⟩ (.slice A n c)) := ⟨43, by rw [hW, heap_al, if_neg (by simp), heap_al, if_pos (by simp)]⟩
    have hb2 : Box W (w.heap.size + 1 + 1) [.slice none 0 0, .slice none 0 0] := ⟨47, by rw [hW, heap_al, if_pos (by simp)]⟩
    have HZ := Lib.hid (show W.heap.size = w.heap.size + 3 by rw [hW]; simp)
    rw [← hW]
    clear hW
    have HA := Lib.hid hA
    have H0 := Lib.hid hb0
    have H1 := Lib.hid hb1
    have H2 := Lib.hid hb2
    have p0 := hb0.cell (j := 0) rfl
    have p1 := hb0.cell (j := 1) rfl
    have q0 := hb1.cell (j := 0) rfl
    have q1 := hb1.cell (j := 1) rfl
    have q2 := hb1.cell (j := 2) rfl
    have q3 := hb1.cell (j := 3) rfl
    have q5 := hb1.cell (j := 5) rfl
    have q6 := hb1.cell (j := 6) rfl
    have q7 := hb1.cell (j := 7) rfl
    have r0 := hb2.cell (j := 0) rfl
    have r1 := hb2.cell (j := 1) rfl
    have f0 := hb2.free 0
    have f1 := hb2.free 1
    have z0 := hb0.lt
    have z1 := hb1.lt
    have z2 := hb2.lt
    dsimp only at q0 q1 q2 q3 q5 q6
    clear hA hb0 hb1 hb2
    go_wp2_with (first
      | (go_at_call 61; first | (with_reducible refine (C1.out _).mono ?_) | (with_reducible refine (C2.out _).mono ?_)
         rintro e w1 ⟨rfl, rfl⟩)
      | (go_at_call 62; refine (C3.out _).mono ?_; rintro e w1 ⟨rfl, rfl⟩))
    refine bodyPost_ret (res_tr3 rfl _ _ (w.heap.size + 1 + 1) (.slice A1 N c1) (.slice A2 M c2) rfl ?_) rfl (HOK.out _ _ rfl ?_)
    · exact H2.out.put [.slice A1 N c1, .slice A2 M c2] rfl
    · exact below_puts (b := w.heap.size + 1 + 1) (by omega) 0 [.slice A1 N c1, .slice A2 M c2] HA.out

theorem Sl.of_box {w : World} {b size : Nat} {cs : List Value} (h : Box w b cs) (n : Nat) (hs : cs.length = n * size) (hm : n ≤ maxLen) : Sl w (b + 1) size (.slice (some ⟨b, 0, none⟩) n n) n cs :=
  ⟨_, n, rfl, Nat.le_refl _, hm, hs, .inr ⟨b, 0, rfl, by omega, fun k u hu => by rw [Nat.zero_add]; exact h.cell hu⟩⟩
theorem Sl.lit' {size : Nat} (w : World) (cs : Array Value) (t : TypeId) (n : Nat) (hs : cs.size = n * size) (hm : n ≤ maxLen) : Sl (w.alloc (.cells cs t)) (w.alloc (.cells cs t)).heap.size size (.slice (some ⟨w.heap.size, 0, none⟩) n n) n cs.toList := (Sl.lit w cs t n hs hm).more (by simp)
set_option maxRecDepth 100000 in
set_option maxHeartbeats 8000000 in
theorem rsend_good (os : List OutS) (is : List InS) (a : AccS) (l : List UInt8) (now : Int) (hl : l.length ≤ 65536) (hs : a.seq < 4294967296) (hnow : now ≤ 4611686018427387904) (hnow' : 0 ≤ now) (v u bv : Value) (w : World) (hv : RowV outCs 10 OutS.parts w w.heap.size v os) (hu : RowV inCs 11 InS.parts w w.heap.size u is) (hbv : BS w w.heap.size bv l)
    (ho : os.length ≤ 65536) (hb : ¬ badHead a l.length = true) : Calls Try.prog 48 #[.agg #[v, u], accV a bv, .int .i64 now] w (RSendPost os is a l now w) := by
  obtain ⟨A1, c1, rfl⟩ := rowV_form hv
  obtain ⟨A2, c2, rfl⟩ := rowV_form hu
  obtain ⟨A, c, rfl, _⟩ := id hbv
  have HV := Lib.hid hv
  have HU := Lib.hid hu
  have HBV := Lib.hid hbv
  have HRF := Lib.hid (show refuseN os a l.length = if 384 < l.length then 4 else if 16777215 < (a.seq : Int) + cntN l.length - 1 then 5 else if l.length ≤ 15 then 0
    else if (os.any fun o => o.dst == a.dst) = true then 20 else if 8 ≤ os.length then 8 else 0 by unfold refuseN; rw [if_neg hb])
  have HSO := Lib.hid (show sendO os a l now = if refuseN os a l.length = 0 ∧ 15 < l.length then os ++ [mOut a l now] else os from rfl)
  have HSL := Lib.hid (show sendL os a l now = if refuseN os a l.length ≠ 0 then [] else if l.length ≤ 15 then [(⟨false, false, a.app, 0, 0, 0, 0, 0, false⟩, l)] else segs a l now (cntP l) from rfl)
  have HT := Lib.hid (fun (W : World) (hW : Below w.heap.size w W) => rto_any os a.dst (.slice A1 os.length c1) W (hv.on hW) ho)
  obtain ⟨R, hR⟩ : ∃ R, R = refuseN os a l.length := ⟨_, rfl⟩
  have HSM := Lib.hid (fun (h0 : R ≠ 0) => rsend_same (now := now) (R := R) hR.symm h0 hv hu)
  have HOK := Lib.hid (show ∀ (e : Ending) (w' : World) (v u x : Value), e = .returned (.tuple #[.agg #[v, u], x, .int .i64 R]) → Below w.heap.size w w' → RowV outCs 10 OutS.parts w' w'.heap.size v (sendO os a l now) → RowV inCs 11 InS.parts w' w'.heap.size u is → LowsV w' w'.heap.size x (sendL os a l now) → RSendPost os is a l now w e w' from fun e w' v u x h1 h2 h3 h4 h5 => ⟨h2, v, u, x, by rw [← hR]; exact h1, h3, h4, h5⟩)
  rw [← hR] at HRF HSO HSL
  generalize hQ : RSendPost os is a l now w = Q at *
  generalize hSO : sendO os a l now = SO at *
  generalize hSL : sendL os a l now = SL at *
  generalize htb : (os.any fun o => o.dst == a.dst) = tb at *
  generalize hN : os.length = N at *
  generalize hM : is.length = M at *
  generalize hn : l.length = n at *
  have HN := Lib.hid hN
  have Hn := Lib.hid hn
  clear hQ hSO hSL htb hN hM hn hv hu hbv hR
  obtain ⟨src, dst, app, ttl, ssrc, iv, seq⟩ := a
  dsimp only at HRF HT hs
  have C1 := Lib.hid (rnode_any src)
  have C2 := Lib.hid (rnode_any dst)
  have C3 := Lib.hid (rgroup_any dst)
  have CC := Lib.hid (rcount_any (n : Int))
  have HC := Lib.hid (show cntN n = if (n : Int) < 1 ∨ 384 < (n : Int) then 0 else if (n : Int) ≤ 15 then 1 else ((n : Int) + 11) / 12 from rfl)
  simp only [badHead, Bool.not_eq_true] at hb
  generalize isNode src = b1 at *
  generalize isNode dst = b2 at *
  generalize isGroup dst = b3 at *
  have hn0 : n ≠ 0 := by rintro rfl; simp at hb
  have hq : ((n : Int) == 0) = false := by simp; omega
  rw [decide_eq_false hn0] at hb
  have hbb : b1 = true ∧ (b2 = true ∨ b2 = false ∧ b3 = true) := by
    rcases b1 with _ | _ <;> rcases b2 with _ | _ <;> rcases b3 with _ | _ <;> simp at hb ⊢
  clear hb
  obtain ⟨rfl, hbb⟩ := hbb
  have hgt : decide (15 < (n : Int)) = decide (15 < n) := by rw [Bool.eq_iff_iff]; simp; omega
  obtain ⟨gt, hg⟩ : ∃ gt, decide (15 < n) = gt := ⟨_, rfl⟩
  rw [hg] at hgt
  have HG := Lib.hid hg
  clear hg
  rcases hbb with rfl | ⟨rfl, rfl⟩
  all_goals
    go_enter Try.func48, Try.ntmps48
    go_upto_region 1 with fail
    obtain ⟨W, hW⟩ : ∃ W, W = ((w.alloc (.cells #[.slice A1 N c1, .slice A2 M c2] 47)).alloc (.cells #[.int .u16 (src : Int), .int .u16 (dst : Int), .bool app, .int .i64 ttl, .int .u16 (ssrc : Int), .int .u32 (iv : Int), .int .u32 (seq : Int), .slice A n c] 43)).alloc (.cells #[.slice none 0 0, .slice none 0 0] 47) := ⟨_, rfl⟩
    have hA : Below w.heap.size w W := by rw [hW]; exact al3 _ _ _ _
    have hb0 : Box W w.heap.size [.slice A1 N c1, .slice A2 M c2] := by rw [hW]; exact ((Box.new _ _ _).alloc _).alloc _
    have hb1 : Box W (w.heap.size + 1) (accCs ⟨src, dst, app, ttl, ssrc, iv, seq⟩ (.slice A n c)) := ⟨43, by rw [hW, heap_al, if_neg (by simp), heap_al, if_pos (by simp)]⟩
    have hb2 : Box W (w.heap.size + 1 + 1) [.slice none 0 0, .slice none 0 0] := ⟨47, by rw [hW, heap_al, if_pos (by simp)]⟩
    have HZ := Lib.hid (show W.heap.size = w.heap.size + 3 by rw [hW]; simp)
    rw [← hW]
    clear hW
    have HA := Lib.hid hA
    have H0 := Lib.hid hb0
    have H1 := Lib.hid hb1
    have H2 := Lib.hid hb2
    have p0 := hb0.cell (j := 0) rfl
    have p1 := hb0.cell (j := 1) rfl
    have q0 := hb1.cell (j := 0) rfl
    have q1 := hb1.cell (j := 1) rfl
    have q2 := hb1.cell (j := 2) rfl
    have q3 := hb1.cell (j := 3) rfl
    have q5 := hb1.cell (j := 5) rfl
    have q6 := hb1.cell (j := 6) rfl
    have q7 := hb1.cell (j := 7) rfl
    have r0 := hb2.cell (j := 0) rfl
    have r1 := hb2.cell (j := 1) rfl
    have f0 := hb2.free 0
    have f1 := hb2.free 1
    have z0 := hb0.lt
    have z1 := hb1.lt
    have z2 := hb2.lt
    dsimp only at q0 q1 q2 q3 q5 q6
    clear hA hb0 hb1 hb2
    go_upto_region 5 with (first
       | (go_at_call 61; first | (with_reducible refine (C1.out _).mono ?_) | (with_reducible refine (C2.out _).mono ?_)
          rintro e w1 ⟨rfl, rfl⟩)
       | (go_at_call 62; refine (C3.out _).mono ?_; rintro e w1 ⟨rfl, rfl⟩))
    by_cases h384 : 384 < n
    · have hR4 : R = 4 := by rw [HRF.out, if_pos h384]
      have hc0 : cntN (n : Int) = 0 := by rw [HC.out, if_pos (by omega)]
      rw [hc0] at CC
      have HS := Lib.hid (HSM.out (by omega))
      rw [hR4] at HS
      clear HC hR4 hc0 h384
      go_wp2_with (go_at_call 15; refine (CC.out _).mono ?_; rintro e w1 ⟨rfl, rfl⟩)
      refine bodyPost_ret (res_tr3 rfl _ _ (w.heap.size + 1 + 1) (.slice A1 N c1) (.slice A2 M c2) rfl ?_) rfl (HS.out _ _ rfl ?_)
      · exact H2.out.put [.slice A1 N c1, .slice A2 M c2] rfl
      · exact below_puts (b := w.heap.size + 1 + 1) (by omega) 0 [.slice A1 N c1, .slice A2 M c2] HA.out
    · have hR := HRF.out
      rw [if_neg h384] at hR
      obtain ⟨m, hm, hm1, hm2⟩ : ∃ m : Nat, cntN (n : Int) = (m : Int) ∧ 1 ≤ m ∧ m ≤ 32 := by
        rw [HC.out, if_neg (by omega)]
        by_cases h15 : n ≤ 15
        · exact ⟨1, by rw [if_pos (by omega)]; rfl, by omega, by omega⟩
        · exact ⟨(n + 11) / 12, by rw [if_neg (by omega)]; omega, by omega, by omega⟩
      rw [hm] at hR CC
      have w1 := wr64 (x := seq) (by omega)
      have w2 := wr64 (x := m) (by omega)
      have w3 : IntKind.u64.wrap ((seq : Int) + (m : Int)) = (seq : Int) + (m : Int) := by rw [IntKind.wrap_u64]; omega
      have w4 : IntKind.u64.wrap ((seq : Int) + (m : Int) - 1) = (seq : Int) + (m : Int) - 1 := by rw [IntKind.wrap_u64]; omega
      have hme : ((m : Int) == 0) = false := by simp; omega
      have HHR := Lib.hid hR
      clear hR HC HRF hm h384
      go_upto_region 7 with (go_at_call 15; refine (CC.out _).mono ?_; rintro e w1 ⟨rfl, rfl⟩)
      go_region_held3 (fun w' => w'.cell? ⟨w.heap.size + 1, 6, none⟩ = some (.int .u32 (seq : Int))) (go_keep) (first | (go_at_call 15; refine (CC.out _).mono ?_; rintro e w' ⟨rfl, rfl⟩))
      have HB := Lib.hid HA.out.drew
      have K0 := Lib.hid H0.out.drew
      have K1 := Lib.hid H1.out.drew
      have K2 := Lib.hid H2.out.drew
      have KZ := Lib.hid (show W.drew.heap.size = w.heap.size + 3 from HZ.out)
      clear p0 p1 q0 q1 q2 q3 q5 q6 q7 r0 r1 f0 f1 z0 z1 z2 HA H0 H1 H2 HZ w1 w2 w3 w4 hme
      by_cases h5 : 16777215 < (seq : Int) + (m : Int) - 1
      · have hR5 : R = 5 := by rw [HHR.out, if_pos h5]
        have g2 : decide (16777215 < (seq : Int) + (m : Int) - 1) = true := decide_eq_true h5
        have HS := Lib.hid (HSM.out (by omega))
        rw [hR5] at HS
        clear HHR hR5 hm1 hm2
        generalize W.drew = W at *
        have p0 := K0.out.cell (j := 0) rfl
        have p1 := K0.out.cell (j := 1) rfl
        have q0 := K1.out.cell (j := 0) rfl
        have q1 := K1.out.cell (j := 1) rfl
        have q2 := K1.out.cell (j := 2) rfl
        have q3 := K1.out.cell (j := 3) rfl
        have q5 := K1.out.cell (j := 5) rfl
        have q6 := K1.out.cell (j := 6) rfl
        have q7 := K1.out.cell (j := 7) rfl
        have r0 := K2.out.cell (j := 0) rfl
        have r1 := K2.out.cell (j := 1) rfl
        have f0 := K2.out.free 0
        have f1 := K2.out.free 1
        have z0 := K0.out.lt
        have z1 := K1.out.lt
        have z2 := K2.out.lt
        dsimp only at q0 q1 q2 q3 q5 q6
        go_wp2_with fail
        refine bodyPost_ret (res_tr3 rfl _ _ (w.heap.size + 1 + 1) (.slice A1 N c1) (.slice A2 M c2) rfl ?_) rfl (HS.out _ _ rfl ?_)
        · exact K2.out.put [.slice A1 N c1, .slice A2 M c2] rfl
        · exact below_puts (b := w.heap.size + 1 + 1) (by omega) 0 [.slice A1 N c1, .slice A2 M c2] HB.out
      · have g2 : decide (16777215 < (seq : Int) + (m : Int) - 1) = false := decide_eq_false h5
        have hR := HHR.out
        rw [if_neg h5] at hR
        clear HHR
        by_cases h15 : n ≤ 15
        · rw [if_pos h15] at hR
          have hgf : gt = false := by rw [← HG.out]; exact decide_eq_false (by omega)
          subst hR hgf
          have HSO1 := Lib.hid (show SO = os by rw [HSO.out, if_neg (fun h => by omega)])
          have HSL1 := Lib.hid (show SL = [(⟨false, false, app, 0, 0, 0, 0, 0, false⟩, l)] by rw [HSL.out, if_neg (by simp), if_pos h15])
          clear hm1 hm2 HSO HSL HSM h15
          generalize W.drew = W at *
          have p0 := K0.out.cell (j := 0) rfl
          have p1 := K0.out.cell (j := 1) rfl
          have q0 := K1.out.cell (j := 0) rfl
          have q1 := K1.out.cell (j := 1) rfl
          have q2 := K1.out.cell (j := 2) rfl
          have q3 := K1.out.cell (j := 3) rfl
          have q5 := K1.out.cell (j := 5) rfl
          have q6 := K1.out.cell (j := 6) rfl
          have q7 := K1.out.cell (j := 7) rfl
          have r0 := K2.out.cell (j := 0) rfl
          have r1 := K2.out.cell (j := 1) rfl
          have f0 := K2.out.free 0
          have f1 := K2.out.free 1
          have z0 := K0.out.lt
          have z1 := K1.out.lt
          have z2 := K2.out.lt
          dsimp only at q0 q1 q2 q3 q5 q6
          go_upto_region 14 with fail
          have HSW := Lib.hid (fun W' (hW' : Below W.heap.size W W') => HBV.out.on (HB.out.trans (hW'.mono HB.out.size)))
          have ny := Ne.symm (show w.heap.size ≠ w.heap.size + 1 + 1 by omega)
          have ny1 := Ne.symm (show w.heap.size + 1 ≠ w.heap.size + 1 + 1 by omega)
          go_region_held3 (fun w' => w'.cell? ⟨w.heap.size, 0, none⟩ = some (.slice A1 N c1) ∧ w'.cell? ⟨w.heap.size, 1, none⟩ = some (.slice A2 M c2) ∧ w'.cell? ⟨w.heap.size + 1, 2, none⟩ = some (.bool app) ∧ w'.cell? ⟨w.heap.size + 1, 7, none⟩ = some (.slice A n c)) (go_keep)
            (first
              | (refine step_by _ elB rfl (.tmp 84) (.tmp 86) rfl rfl (OB.nil _) rfl (HSW.out _ (((Below.refl _ _).drew).alloc (Nat.le_refl _) _)) ?_ ?_ ?_
                 (case refine_1 => rw [Hn.out]; simp; omega)
                 (case refine_2 => simp)
                 intro v9 w9 hown9 hb9
                 rw [List.nil_append] at hown9
                 have hb10 : Below W.heap.size W w9 := (((Below.refl _ _).drew).alloc (Nat.le_refl _) _).trans hb9
                 have HB10 := Lib.hid hb10
                 have p90 := (K0.out.on hb10).cell (j := 0) rfl
                 have p91 := (K0.out.on hb10).cell (j := 1) rfl
                 have q92 := (K1.out.on hb10).cell (j := 2) rfl
                 have q97 := (K1.out.on hb10).cell (j := 7) rfl
                 have r90 := (K2.out.on hb10).cell (j := 0) rfl
                 have r91 := (K2.out.on hb10).cell (j := 1) rfl
                 have f90 := (K2.out.on hb10).free 0
                 have f91 := (K2.out.on hb10).free 1
                 have y0 := (K0.out.on hb10).lt
                 have y1 := (K1.out.on hb10).lt
                 have y2 := (K2.out.on hb10).lt
                 obtain ⟨A9, c9, rfl⟩ := own_slice hown9
                 have HO9 := Lib.hid hown9
                 clear hown9 hb9 hb10))
          all_goals
            clear p0 p1 q0 q1 q2 q3 q5 q6 q7 r0 r1 f0 f1 z0 z1 z2 p90 p91 q92 q97 r90 r91 f90 f91 ny ny1
            go_wp2_with fail
            obtain ⟨Y, hY⟩ : ∃ Y, Y = w9.setCells (w.heap.size + 1 + 1) 0 [.slice A1 N c1, .slice A2 M c2] := ⟨_, rfl⟩
            have hYs : Y.heap.size = w9.heap.size := by rw [hY]; exact size_puts _ _ _ _
            have hYB : Below w.heap.size w Y := by rw [hY]; exact below_puts (b := w.heap.size + 1 + 1) (by omega) 0 [.slice A1 N c1, .slice A2 M c2] (HB.out.trans (HB10.out.mono HB.out.size))
            have hYX : Y.ownsRow W.heap.size 5 1 (.slice A9 l.length c9) l.length (bys l) := by rw [hY]; exact own_far (own_far HO9.out (by rw [KZ.out]; omega) 0 _) (by rw [KZ.out]; omega) 1 _
            have hYR : Box Y (w.heap.size + 1 + 1) [.slice A1 N c1, .slice A2 M c2] := by rw [hY]; exact (K2.out.on HB10.out).put [.slice A1 N c1, .slice A2 M c2] rfl
            rw [show (w9.setCell ⟨w.heap.size + 1 + 1, 0, none⟩ (.slice A1 N c1)).setCell ⟨w.heap.size + 1 + 1, 1, none⟩ (.slice A2 M c2) = Y from hY.symm]
            clear hY
            refine bodyPost_ret (res_tr3 rfl _ _ (w.heap.size + 1 + 1) (.slice A1 N c1) (.slice A2 M c2) rfl ?_) rfl (HOK.out _ _ _ _ _ rfl ?_ ?_ ?_ ?_)
            · exact hYR.alloc _
            · exact hYB.alloc hYB.size _
            · rw [HSO1.out]; exact HV.out.on (hYB.alloc hYB.size _)
            · exact HU.out.on (hYB.alloc hYB.size _)
            · rw [HSL1.out, ← hYs]
              have h1 := Sl.lit' (size := 10) Y #[.bool false, .bool false, .bool app, .int .i64 0, .int .i64 0, .int .i64 0, .int .i64 0, .int .u32 0, .bool false, .slice A9 l.length c9] 25 1 rfl (by simp [maxLen])
              refine ⟨[.slice A9 l.length c9], rfl, h1, fun k p u hp hu => ?_⟩
              match k, hp, hu with
              | 0, hp, hu =>
                simp only [List.getElem?_cons_zero, Option.some.injEq] at hp hu
                subst hp hu
                exact (BS.of_own rfl hYX).on (al1 _ _)
        · rw [if_neg h15] at hR
          have hgf : gt = true := by rw [← HG.out]; exact decide_eq_true (by omega)
          subst hgf
          have HR6 := Lib.hid hR
          clear hR hm1 hm2
          generalize W.drew = W at *
          have p0 := K0.out.cell (j := 0) rfl
          have p1 := K0.out.cell (j := 1) rfl
          have q0 := K1.out.cell (j := 0) rfl
          have q1 := K1.out.cell (j := 1) rfl
          have q2 := K1.out.cell (j := 2) rfl
          have q3 := K1.out.cell (j := 3) rfl
          have q5 := K1.out.cell (j := 5) rfl
          have q6 := K1.out.cell (j := 6) rfl
          have q7 := K1.out.cell (j := 7) rfl
          have r0 := K2.out.cell (j := 0) rfl
          have r1 := K2.out.cell (j := 1) rfl
          have f0 := K2.out.free 0
          have f1 := K2.out.free 1
          have z0 := K0.out.lt
          have z1 := K1.out.lt
          have z2 := K2.out.lt
          dsimp only at q0 q1 q2 q3 q5 q6
          rcases tb with _ | _
          case true =>
            rw [if_pos rfl] at HR6
            have HS := Lib.hid (HSM.out (by have := HR6.out; omega))
            rw [HR6.out] at HS
            clear h15
            go_wp2_with (first
              | (go_at_call 63; refine (HT.out _ HB.out).mono ?_; rintro e w1 ⟨rfl, hb1⟩
                 have HB1 := Lib.hid (HB.out.trans (hb1.mono HB.out.size))
                 have J0 := Lib.hid (K0.out.on hb1)
                 have J2 := Lib.hid (K2.out.on hb1)
                 clear hb1 p0 p1 q0 q1 q2 q3 q5 q6 q7 r0 r1 f0 f1 z0 z1 z2
                 have p0 := J0.out.cell (j := 0) rfl
                 have p1 := J0.out.cell (j := 1) rfl
                 have r0 := J2.out.cell (j := 0) rfl
                 have r1 := J2.out.cell (j := 1) rfl
                 have f0 := J2.out.free 0
                 have f1 := J2.out.free 1
                 have z0 := J0.out.lt
                 have z2 := J2.out.lt))
            refine bodyPost_ret (res_tr3 rfl _ _ (w.heap.size + 1 + 1) (.slice A1 N c1) (.slice A2 M c2) rfl ?_) rfl (HS.out _ _ rfl ?_)
            · exact J2.out.put [.slice A1 N c1, .slice A2 M c2] rfl
            · exact below_puts (b := w.heap.size + 1 + 1) (by omega) 0 [.slice A1 N c1, .slice A2 M c2] HB1.out
          case false =>
            rw [if_neg (by simp)] at HR6
            go_upto_region 11 with (first
              | (go_at_call 63; refine (HT.out _ HB.out).mono ?_; rintro e w1 ⟨rfl, hb1⟩
                 have HB1 := Lib.hid (HB.out.trans (hb1.mono HB.out.size))
                 have J0 := Lib.hid (K0.out.on hb1)
                 have J1 := Lib.hid (K1.out.on hb1)
                 have J2 := Lib.hid (K2.out.on hb1)
                 have JZ := Lib.hid (show w.heap.size + 3 ≤ w1.heap.size from Nat.le_trans (Nat.le_of_eq KZ.out.symm) hb1.size)
                 clear hb1 p0 p1 q0 q1 q2 q3 q5 q6 q7 r0 r1 f0 f1 z0 z1 z2 K0 K1 K2 KZ HB
                 have p0 := J0.out.cell (j := 0) rfl
                 have p1 := J0.out.cell (j := 1) rfl
                 have q0 := J1.out.cell (j := 0) rfl
                 have q1 := J1.out.cell (j := 1) rfl
                 have q2 := J1.out.cell (j := 2) rfl
                 have q3 := J1.out.cell (j := 3) rfl
                 have q5 := J1.out.cell (j := 5) rfl
                 have q6 := J1.out.cell (j := 6) rfl
                 have q7 := J1.out.cell (j := 7) rfl
                 have r0 := J2.out.cell (j := 0) rfl
                 have r1 := J2.out.cell (j := 1) rfl
                 have f0 := J2.out.free 0
                 have f1 := J2.out.free 1
                 have z0 := J0.out.lt
                 have z1 := J1.out.lt
                 have z2 := J2.out.lt
                 dsimp only at q0 q1 q2 q3 q5 q6))
            by_cases h8 : 8 ≤ N
            · have hR8 := HR6.out
              rw [if_pos h8] at hR8
              have HS := Lib.hid (HSM.out (by omega))
              rw [hR8] at HS
              have g8 : decide (8 ≤ (N : Int)) = true := decide_eq_true (by omega)
              clear h15 hR8
              go_wp2_with fail
              refine bodyPost_ret (res_tr3 rfl _ _ (w.heap.size + 1 + 1) (.slice A1 N c1) (.slice A2 M c2) rfl ?_) rfl (HS.out _ _ rfl ?_)
              · exact J2.out.put [.slice A1 N c1, .slice A2 M c2] rfl
              · exact below_puts (b := w.heap.size + 1 + 1) (by omega) 0 [.slice A1 N c1, .slice A2 M c2] HB1.out
            · have hR8 := HR6.out
              rw [if_neg h8] at hR8
              subst hR8
              have g8 : decide (8 ≤ (N : Int)) = false := decide_eq_false (by omega)
              have g8' : ¬ 8 ≤ (N : Int) := by omega
              have HSO1 := Lib.hid (show SO = os ++ [mOut ⟨src, dst, app, ttl, ssrc, iv, seq⟩ l now] by rw [HSO.out, if_pos ⟨rfl, by omega⟩])
              have HSL1 := Lib.hid (show SL = segs ⟨src, dst, app, ttl, ssrc, iv, seq⟩ l now (cntP l) by rw [HSL.out, if_neg (by simp), if_neg h15])
              have hw20 : IntKind.i64.wrap (now + 20) = now + 20 := IntWalk.i64_in _ (by omega)
              clear HSO HSL HSM HR6 h15
              go_upto_region 16 with fail
              obtain ⟨W4, hW4⟩ : ∃ W4, W4 = w1.alloc (.cells #[.int .u16 (dst : Int), .int .u16 (src : Int), .bool app, .int .u32 (seq : Int), .int .u32 (iv : Int), .slice none 0 0, .int .u32 0, .int .i64 (now + 20), .int .i64 1, .int .i64 ttl] 75) := ⟨_, rfl⟩
              have HX4 := Lib.hid (show Box W4 w1.heap.size (outCs ⟨dst, src, app, seq, iv, [], 0, now + 20, 1, ttl⟩ (.slice none 0 0)) by rw [hW4]; exact Box.new _ _ _)
              have HB4 := Lib.hid (show Below w1.heap.size w1 W4 by rw [hW4]; exact al1 _ _)
              rw [← hW4]
              have hcnt := Lib.hid (show cntP l = (n + 11) / 12 by unfold cntP; rw [Hn.out])
              generalize hC : cntP l = C at *
              have HC := Lib.hid hC
              have HBV1 := Lib.hid (HBV.out.below HB1.out)
              clear hC hW4 p0 p1 q0 q1 q2 q3 q5 q6 q7 r0 r1 f0 f1 z0 z1 z2 hw20
              go_wp2_with fail
              go_loopw [12] (fun i wr => ∃ (k : Nat) (pv : Value), k ≤ C ∧ i = .int .i64 ((12 * k : Nat) : Int) ∧ Box wr w1.heap.size (outCs ⟨dst, src, app, seq, iv, [], 0, now + 20, 1, ttl⟩ pv) ∧ OwnParts wr (w1.heap.size + 1) pv (chunks l k) ∧ Below w1.heap.size w1 wr) (fun i _ => n - (intOf i).toNat)
              case atStart => exact ⟨0, .slice none 0 0, Nat.zero_le _, rfl, HX4.out, ⟨[], by simp [chunks], by simpa [chunks] using World.ownsRow_nil _ _ _ _, fun _ _ _ h => by simp at h⟩, HB4.out⟩
              clear HX4 HB4
              case round =>
                obtain ⟨k, pv, hk, rfl, hbx, hpv, hbel⟩ := hrel
                have HBE := Lib.hid hbel
                have HBX := Lib.hid hbx
                have HPV := Lib.hid hpv
                have hpl : (chunks l k).length = k := chunks_len l k
                obtain ⟨p, hp⟩ : ∃ p, p = 12 * k := ⟨_, rfl⟩
                rw [← hp]
                by_cases hr0 : p < n
                · obtain ⟨p12, hp12⟩ : ∃ p12, p12 = p + 12 := ⟨_, rfl⟩
                  obtain ⟨hh, hhh⟩ : ∃ hh, hh = min n p12 := ⟨_, rfl⟩
                  have hw12 : IntKind.i64.wrap ((p : Int) + 12) = (p12 : Int) := by rw [IntWalk.i64_in _ (by omega)]; omega
                  have hmm : (if p12 < n then (p12 : Int) else (n : Int)) = (hh : Int) := by split <;> omega
                  have hch : chunk l k = (l.drop p).take (hh - p) := by
                    unfold chunk
                    rw [← hp]
                    rcases Nat.le_total 12 (n - p) with h | h
                    · rw [show hh - p = 12 by omega]
                    · rw [List.take_of_length_le (by rw [List.length_drop, Hn.out]; omega), List.take_of_length_le (by rw [List.length_drop, Hn.out]; omega)]
                  obtain ⟨bb, off, cc, hAf, hbB, hncc, hccm, _⟩ := Sl.at_ HBV.out (bys_at (k := p) (by rw [Hn.out]; exact hr0))
                  rw [Hn.out] at hAf
                  injection hAf with hA1 _ hA3
                  subst hA1 hA3
                  have hbq := HBV1.out
                  rw [← Hn.out] at hbq
                  have hsub := (hbq.cut (k := p) (by rw [Hn.out]; omega))
                  rw [if_neg (by rw [Hn.out] at hncc; omega), Hn.out] at hsub
                  have hdl : (l.drop p).length = n - p := by rw [List.length_drop, Hn.out]
                  rw [← hdl] at hsub
                  have hsub2 := hsub.front (k := hh - p) (by rw [hdl]; omega)
                  have HFR := Lib.hid hsub2
                  have HFL := Lib.hid (show ((l.drop p).take (hh - p)).length = hh - p by rw [List.length_take, hdl]; omega)
                  have HCH := Lib.hid hch
                  generalize (l.drop p).take (hh - p) = mk at *
                  obtain ⟨us, k1, k2, k3⟩ := hpv
                  obtain ⟨A5, c5, hpf⟩ := own_form k2
                  rw [hpl] at hpf k1 k2
                  subst hpf
                  have HK := Lib.hid (show us.length = k ∧ wr.ownsRow (w1.heap.size + 1) 23 1 (.slice A5 k c5) k us from ⟨k1, k2⟩)
                  have HK3 := Lib.hid k3
                  have e5 := hbx.cell (j := 5) rfl
                  have f5 := hbx.free 5
                  have z5 := hbx.lt
                  have q7 := (J1.out.keep hbel J1.out.lt).cell (j := 7) rfl
                  have z1 := (J1.out.keep hbel J1.out.lt).lt
                  have zz : w.heap.size + 1 < w1.heap.size := J1.out.lt
                  have hpc : p < c := by rw [Hn.out] at hncc; omega
                  have hhc : hh ≤ c := by rw [Hn.out] at hncc; omega
                  have hph : p ≤ hh := by omega
                  have hcp : c ≠ p := by omega
                  have HP12 := Lib.hid hp12
                  have HHH := Lib.hid hhh
                  have HPK := Lib.hid hp
                  have hh0 : (p : Int) ≤ (hh : Int) := by omega
                  have hhn : (hh : Int) ≤ (n : Int) := by omega
                  clear hsub hsub2 hbq hdl hpl hbx hbel hk hp hch k1 k2 k3 hncc hhh hp12
                  go_upto_region 19 with fail
                  have HSW := Lib.hid (fun W' (hW' : Below wr.heap.size wr W') => HFR.out.below (HBE.out.mono HB1.out.size |>.trans (hW'.mono (Nat.le_trans HB1.out.size HBE.out.size))))
                  have nb1 : w1.heap.size ≠ w.heap.size + 1 := by omega
                  refine wp_region_noPanic ?_
                  refine wp_region_held_drew (S := fun w' => w'.cell? ⟨w.heap.size + 1, 7, none⟩ = some (.slice (some ⟨bb, off, none⟩) n c)) (by kernel_rfl) (by (go_keep; try omega)) (fun hHeld => ?_)
                  refine wpAnyH_take (i := 0) (v := ?_) rfl (by kernel_rfl) (by kernel_rfl) (by kernel_rfl) (fun _ _ _ h => h) (Or.inl ⟨by rfl, ?_⟩) (by assumption) ?_
                  rotate_left
                  · intro w hSw
                    (try dsimp only at hSw)
                    go_simp
                    first | done | with_reducible rfl
                  simp only [Act.put, List.getElem_toArray, List.getElem_cons_zero, List.setIfInBounds_toArray, List.set_cons_zero, List.set_cons_succ]
                  refine wpAnyH_take (i := 3) (v := ?_) rfl (by kernel_rfl) (by kernel_rfl) (by kernel_rfl) (fun _ _ _ h => h) (Or.inl ⟨by rfl, ?_⟩) (by assumption) ?_
                  rotate_left
                  · intro w hSw
                    (try dsimp only at hSw)
                    go_simp
                    first | done | with_reducible rfl
                  simp only [Act.put, List.getElem_toArray, List.getElem_cons_succ, List.getElem_cons_zero, List.setIfInBounds_toArray, List.set_cons_zero, List.set_cons_succ]
                  refine wpAnyH_take (i := 4) (v := ?_) rfl (by kernel_rfl) (by kernel_rfl) (by kernel_rfl) (fun _ _ _ h => h) (Or.inl ⟨by rfl, ?_⟩) (by assumption) ?_
                  rotate_left
                  · intro w hSw
                    (try dsimp only at hSw)
                    go_simp
                    first | done | with_reducible rfl
                  simp only [Act.put, List.getElem_toArray, List.getElem_cons_succ, List.getElem_cons_zero, List.setIfInBounds_toArray, List.set_cons_zero, List.set_cons_succ]
                  refine wpAnyH_take (i := 5) (v := ?_) rfl (by kernel_rfl) (by kernel_rfl) (by kernel_rfl) (fun _ _ _ h => h) (Or.inl ⟨by rfl, ?_⟩) (by assumption) ?_
                  rotate_left
                  · intro w hSw
                    (try dsimp only at hSw)
                    go_simp
                    first | done | with_reducible rfl
                  simp only [Act.put, List.getElem_toArray, List.getElem_cons_succ, List.getElem_cons_zero, List.setIfInBounds_toArray, List.set_cons_zero, List.set_cons_succ]
                  refine wpAnyH_take (i := 6) (v := ?_) rfl (by kernel_rfl) (by kernel_rfl) (by kernel_rfl) (fun _ _ _ h => h) (Or.inl ⟨by rfl, ?_⟩) (by assumption) ?_
                  rotate_left
                  · intro w hSw
                    (try dsimp only at hSw)
                    go_simp
                    first | done | with_reducible rfl
                  simp only [Act.put, List.getElem_toArray, List.getElem_cons_succ, List.getElem_cons_zero, List.setIfInBounds_toArray, List.set_cons_zero, List.set_cons_succ]
                  refine wpAnyH_take (i := 7) (v := ?_) rfl (by kernel_rfl) (by kernel_rfl) (by kernel_rfl) (fun _ _ _ h => h) (Or.inl ⟨by rfl, ?_⟩) (by assumption) ?_
                  rotate_left
                  · intro w hSw
                    (try dsimp only at hSw)
                    go_simp
                    first | done | with_reducible rfl
                  simp only [Act.put, List.getElem_toArray, List.getElem_cons_succ, List.getElem_cons_zero, List.setIfInBounds_toArray, List.set_cons_zero, List.set_cons_succ]
                  refine wpAnyH_take (i := 8) (v := ?_) rfl (by kernel_rfl) (by kernel_rfl) (by kernel_rfl) (fun _ _ _ h => h) (Or.inl ⟨by rfl, ?_⟩) (by assumption) ?_
                  rotate_left
                  · intro w hSw
                    (try dsimp only at hSw)
                    go_simp
                    first | done | with_reducible rfl
                  simp only [Act.put, List.getElem_toArray, List.getElem_cons_succ, List.getElem_cons_zero, List.setIfInBounds_toArray, List.set_cons_zero, List.set_cons_succ]
                  refine wpAnyH_take (i := 9) (v := ?_) rfl (by kernel_rfl) (by kernel_rfl) (by kernel_rfl) (fun _ _ _ h => h) (Or.inl ⟨by rfl, ?_⟩) (by assumption) ?_
                  rotate_left
                  · intro w hSw
                    (try dsimp only at hSw)
                    go_simp
                    first | done | with_reducible rfl
                  simp only [Act.put, List.getElem_toArray, List.getElem_cons_succ, List.getElem_cons_zero, List.setIfInBounds_toArray, List.set_cons_zero, List.set_cons_succ]
                  refine wpAnyH_take (i := 10) (v := ?_) rfl (by kernel_rfl) (by kernel_rfl) (by kernel_rfl) (fun _ _ _ h => h) (Or.inl ⟨by rfl, ?_⟩) (by assumption) ?_
                  rotate_left
                  · intro w hSw
                    (try dsimp only at hSw)
                    go_simp
                    first | done | with_reducible rfl
                  simp only [Act.put, List.getElem_toArray, List.getElem_cons_succ, List.getElem_cons_zero, List.setIfInBounds_toArray, List.set_cons_zero, List.set_cons_succ]
                  refine wpAnyH_ready (rs := [1, 2]) (by kernel_rfl) (by simp) ?_
                  refine AllReadyH.cons rfl (fun K hK => ?_) (AllReadyH.cons rfl (fun K hK => ?_) AllReadyH.nil)
                  · go_simp
                    first | (refine hK.out _ _ ?_ (fun hHeld => ?_)) | (go_wp2_with fail; refine hK.out _ _ ?_ (fun hHeld => ?_))
                    · (go_keep; try omega)
                    clear hK K
                    try simp only [Act.put, List.getElem_toArray, List.getElem_cons_succ, List.getElem_cons_zero, List.setIfInBounds_toArray, List.set_cons_zero, List.set_cons_succ]
                    refine wpAnyH_ready (rs := [2]) (by kernel_rfl) (by simp) ?_
                    refine AllReadyH.cons rfl (fun K hK => ?_) AllReadyH.nil
                    go_simp
                    first | (refine hK.out _ _ ?_ (fun hHeld => ?_)) | (go_wp2_with fail; refine hK.out _ _ ?_ (fun hHeld => ?_))
                    · (go_keep; try omega)
                    clear hK K
                    try simp only [Act.put, List.getElem_toArray, List.getElem_cons_succ, List.getElem_cons_zero, List.setIfInBounds_toArray, List.set_cons_zero, List.set_cons_succ]
                    refine wpAnyH_ready (rs := [11]) (by kernel_rfl) (by simp) ?_
                    refine AllReadyH.cons rfl (fun K hK => ?_) AllReadyH.nil
                    refine step_by _ elB rfl (.tmp 114) (.tmp 122) rfl rfl (OB.nil _) rfl (HSW.out _ (((Below.refl _ _).drew).alloc (Nat.le_refl _) _)) ?_ ?_ ?_
                    · clear hw12 hmm; rw [HFL.out]; simp; omega
                    · simp
                    intro v9 w9 hown9 hb9
                    rw [List.nil_append] at hown9
                    have hb10 : Below wr.heap.size wr w9 := (((Below.refl _ wr).drew).alloc (Nat.le_refl _) _).trans hb9
                    have HB10 := Lib.hid hb10
                    have e95 := (HBX.out.on hb10).cell (j := 5) rfl
                    have f95 := (HBX.out.on hb10).free 5
                    have z95 := (HBX.out.on hb10).lt
                    have q97 := ((J1.out.keep HBE.out zz).on hb10).cell (j := 7) rfl
                    obtain ⟨A9, c9, rfl⟩ := own_slice hown9
                    have HO9 := Lib.hid hown9
                    have HK9 := Lib.hid (own_on HK.out.2 hb10)
                    clear hown9 hb9 hb10
                    refine hK.out _ _ q97 (fun hHeld => ?_)
                    clear hK K
                    simp only [Act.put, List.getElem_toArray, List.getElem_cons_succ, List.getElem_cons_zero, List.setIfInBounds_toArray, List.set_cons_zero, List.set_cons_succ]
                    refine wpAnyH_ready (rs := [12]) (by kernel_rfl) (by simp) ?_
                    refine AllReadyH.cons rfl (fun K hK => ?_) AllReadyH.nil
                    go_simp
                    first | (refine hK.out _ _ ?_ (fun hHeld => ?_)) | (go_wp2_with fail; refine hK.out _ _ ?_ (fun hHeld => ?_))
                    · (go_keep; try omega)
                    clear hK K
                    try simp only [Act.put, List.getElem_toArray, List.getElem_cons_succ, List.getElem_cons_zero, List.setIfInBounds_toArray, List.set_cons_zero, List.set_cons_succ]
                    refine wpAnyH_ready (rs := [13]) (by kernel_rfl) (by simp) ?_
                    refine AllReadyH.cons rfl (fun K hK => ?_) AllReadyH.nil
                    refine step_sl _ elP rfl (.tmp 113) (.tmp 124) rfl rfl (HK9.out.alloc _) rfl (Sl.lit _ _ _ 1 rfl (by simp [maxLen])) ?_ ?_ ?_ ?_
                    · intro u hu; simp at hu; subst hu; rfl
                    · clear hw12 hmm; have := hcnt.out; have := HPK.out; omega
                    · exact Nat.le_trans (Nat.succ_le_of_lt z95) (by simp)
                    intro v5 w5 hown5 hg5 hnil5 hat5
                    have hb5 : Below (w1.heap.size + 1) w9 w5 := below_app ((Below.refl _ _).alloc (Nat.succ_le_of_lt z95) _) (HK9.out.alloc _) hg5 (Nat.le_refl _) (Nat.le_trans (Nat.succ_le_of_lt z95) (by simp))
                    have HB5 := Lib.hid hb5
                    have e55 := ((HBX.out.on HB10.out).keep hb5 (Nat.lt_succ_self _)).cell (j := 5) rfl
                    have f55 := ((HBX.out.on HB10.out).keep hb5 (Nat.lt_succ_self _)).free 5
                    have z55 := ((HBX.out.on HB10.out).keep hb5 (Nat.lt_succ_self _)).lt
                    have q57 := (((J1.out.keep HBE.out zz).on HB10.out).keep hb5 (Nat.lt_succ_of_lt zz)).cell (j := 7) rfl
                    have HG5 := Lib.hid hg5
                    have HO5 := Lib.hid hown5
                    obtain ⟨A6, c6, rfl⟩ := own_form hown5
                    clear hown5 hb5 hg5 hnil5 hat5
                    refine hK.out _ _ q57 (fun hHeld => ?_)
                    clear hK K
                    simp only [Act.put, List.getElem_toArray, List.getElem_cons_succ, List.getElem_cons_zero, List.setIfInBounds_toArray, List.set_cons_zero, List.set_cons_succ]
                    refine wpAnyH_take (i := 14) (v := ?_) rfl (by kernel_rfl) (by kernel_rfl) (by kernel_rfl) (fun _ _ _ h => h) (Or.inl ⟨by rfl, ?_⟩) (by assumption) ?_
                    rotate_left
                    · intro w hSw
                      (try dsimp only at hSw)
                      go_simp
                      first | done | with_reducible rfl
                    simp only [Act.put, List.getElem_toArray, List.getElem_cons_succ, List.getElem_cons_zero, List.setIfInBounds_toArray, List.set_cons_zero, List.set_cons_succ]
                    refine wpAnyH_ready (rs := [15]) (by kernel_rfl) (by simp) ?_
                    refine AllReadyH.cons rfl (fun K hK => ?_) AllReadyH.nil
                    go_simp
                    first | (refine hK.out _ _ ?_ (fun hHeld => ?_)) | (go_wp2_with fail; refine hK.out _ _ ?_ (fun hHeld => ?_))
                    · (go_keep; try omega)
                    clear hK K
                    try simp only [Act.put, List.getElem_toArray, List.getElem_cons_succ, List.getElem_cons_zero, List.setIfInBounds_toArray, List.set_cons_zero, List.set_cons_succ]
                    refine wpAnyH_done (by kernel_rfl) ?_ _
                    refine NoPanic.normal ?_
                    have HBF := Lib.hid (show Box (w5.setCell ⟨w1.heap.size, 5, none⟩ (.slice A6 (k + 1) c6)) w1.heap.size (outCs ⟨dst, src, app, seq, iv, [], 0, now + 20, 1, ttl⟩ (.slice A6 (k + 1) c6)) from ((HBX.out.on HB10.out).keep HB5.out (Nat.lt_succ_self _)).set 5 _)
                    have HBE2 := Lib.hid (show Below w1.heap.size w1 (w5.setCell ⟨w1.heap.size, 5, none⟩ (.slice A6 (k + 1) c6)) from ((HBE.out.trans (HB10.out.mono HBE.out.size)).trans (HB5.out.mono (Nat.le_succ _))).setCell (Nat.le_refl _) _)
                    have HOP := Lib.hid (show OwnParts (w5.setCell ⟨w1.heap.size, 5, none⟩ (.slice A6 (k + 1) c6)) (w1.heap.size + 1) (.slice A6 (k + 1) c6) (chunks l (k + 1)) by
                      clear hw12 hmm
                      have hlen : (us ++ [Value.slice A9 mk.length c9]).length = k + 1 := by simp [HK.out.1]
                      refine ⟨us ++ [.slice A9 mk.length c9], by rw [hlen, chunks_len], by rw [chunks_len]; exact own_far HO5.out (Nat.lt_succ_self _) 5 _, fun j u pp hu hp => ?_⟩
                      rw [chunks_succ] at hp
                      by_cases hj : j < k
                      · rw [List.getElem?_append_left (by rw [HK.out.1]; exact hj)] at hu
                        rw [List.getElem?_append_left (by rw [chunks_len]; exact hj)] at hp
                        exact own_far (own_grown_type ((own_on (HK3.out j u pp hu hp) HB10.out).alloc _) (HK9.out.alloc _) (by decide) HG5.out) (Nat.lt_succ_self _) 5 _
                      · have hjk : j = k := by
                          have := (List.getElem?_eq_some_iff.1 hu).1
                          omega
                        subst hjk
                        rw [List.getElem?_append_right (by rw [HK.out.1]; exact Nat.le_refl _), HK.out.1, Nat.sub_self] at hu
                        rw [List.getElem?_append_right (by rw [chunks_len]; exact Nat.le_refl _), chunks_len, Nat.sub_self] at hp
                        simp only [List.getElem?_cons_zero, Option.some.injEq] at hu hp
                        subst hu hp
                        rw [HCH.out]
                        have hx' : OB w9 (w1.heap.size + 1) (.slice A9 mk.length c9) mk := own_base HO9.out (Nat.succ_le_of_lt z5)
                        exact own_far (own_grown_type (hx'.alloc _) (HK9.out.alloc _) (by decide) HG5.out) (Nat.lt_succ_self _) 5 _)
                    clear hHeld e95 f95 z95 q97 e55 f55 z55 q57 e5 f5 z5 q7 z1 zz nb1
                    go_wp2_with fail
                    go_roundw
                    case rel =>
                      have h1 := HP12.out
                      have h2 := HPK.out
                      have h3 := hcnt.out
                      clear hw12 hmm
                      have h4 : p12 = 12 * (k + 1) := by omega
                      exact ⟨k + 1, _, by omega, by rw [h4], HBF.out, HOP.out, HBE2.out⟩
                    case measure =>
                      have h1 := HP12.out
                      clear hw12 hmm
                      simp [intOf]
                      omega
                  · go_simp
                    first | (refine hK.out _ _ ?_ (fun hHeld => ?_)) | (go_wp2_with fail; refine hK.out _ _ ?_ (fun hHeld => ?_))
                    · (go_keep; try omega)
                    clear hK K
                    try simp only [Act.put, List.getElem_toArray, List.getElem_cons_succ, List.getElem_cons_zero, List.setIfInBounds_toArray, List.set_cons_zero, List.set_cons_succ]
                    refine wpAnyH_ready (rs := [1, 11]) (by kernel_rfl) (by simp) ?_
                    refine AllReadyH.cons rfl (fun K hK => ?_) (AllReadyH.cons rfl (fun K hK => ?_) AllReadyH.nil)
                    · go_simp
                      first | (refine hK.out _ _ ?_ (fun hHeld => ?_)) | (go_wp2_with fail; refine hK.out _ _ ?_ (fun hHeld => ?_))
                      · (go_keep; try omega)
                      clear hK K
                      try simp only [Act.put, List.getElem_toArray, List.getElem_cons_succ, List.getElem_cons_zero, List.setIfInBounds_toArray, List.set_cons_zero, List.set_cons_succ]
                      refine wpAnyH_ready (rs := [11]) (by kernel_rfl) (by simp) ?_
                      refine AllReadyH.cons rfl (fun K hK => ?_) AllReadyH.nil
                      refine step_by _ elB rfl (.tmp 114) (.tmp 122) rfl rfl (OB.nil _) rfl (HSW.out _ (((Below.refl _ _).drew).alloc (Nat.le_refl _) _)) ?_ ?_ ?_
                      · clear hw12 hmm; rw [HFL.out]; simp; omega
                      · simp
                      intro v9 w9 hown9 hb9
                      rw [List.nil_append] at hown9
                      have hb10 : Below wr.heap.size wr w9 := (((Below.refl _ wr).drew).alloc (Nat.le_refl _) _).trans hb9
                      have HB10 := Lib.hid hb10
                      have e95 := (HBX.out.on hb10).cell (j := 5) rfl
                      have f95 := (HBX.out.on hb10).free 5
                      have z95 := (HBX.out.on hb10).lt
                      have q97 := ((J1.out.keep HBE.out zz).on hb10).cell (j := 7) rfl
                      obtain ⟨A9, c9, rfl⟩ := own_slice hown9
                      have HO9 := Lib.hid hown9
                      have HK9 := Lib.hid (own_on HK.out.2 hb10)
                      clear hown9 hb9 hb10
                      refine hK.out _ _ q97 (fun hHeld => ?_)
                      clear hK K
                      simp only [Act.put, List.getElem_toArray, List.getElem_cons_succ, List.getElem_cons_zero, List.setIfInBounds_toArray, List.set_cons_zero, List.set_cons_succ]
                      refine wpAnyH_ready (rs := [12]) (by kernel_rfl) (by simp) ?_
                      refine AllReadyH.cons rfl (fun K hK => ?_) AllReadyH.nil
                      go_simp
                      first | (refine hK.out _ _ ?_ (fun hHeld => ?_)) | (go_wp2_with fail; refine hK.out _ _ ?_ (fun hHeld => ?_))
                      · (go_keep; try omega)
                      clear hK K
                      try simp only [Act.put, List.getElem_toArray, List.getElem_cons_succ, List.getElem_cons_zero, List.setIfInBounds_toArray, List.set_cons_zero, List.set_cons_succ]
                      refine wpAnyH_ready (rs := [13]) (by kernel_rfl) (by simp) ?_
                      refine AllReadyH.cons rfl (fun K hK => ?_) AllReadyH.nil
                      refine step_sl _ elP rfl (.tmp 113) (.tmp 124) rfl rfl (HK9.out.alloc _) rfl (Sl.lit _ _ _ 1 rfl (by simp [maxLen])) ?_ ?_ ?_ ?_
                      · intro u hu; simp at hu; subst hu; rfl
                      · clear hw12 hmm; have := hcnt.out; have := HPK.out; omega
                      · exact Nat.le_trans (Nat.succ_le_of_lt z95) (by simp)
                      intro v5 w5 hown5 hg5 hnil5 hat5
                      have hb5 : Below (w1.heap.size + 1) w9 w5 := below_app ((Below.refl _ _).alloc (Nat.succ_le_of_lt z95) _) (HK9.out.alloc _) hg5 (Nat.le_refl _) (Nat.le_trans (Nat.succ_le_of_lt z95) (by simp))
                      have HB5 := Lib.hid hb5
                      have e55 := ((HBX.out.on HB10.out).keep hb5 (Nat.lt_succ_self _)).cell (j := 5) rfl
                      have f55 := ((HBX.out.on HB10.out).keep hb5 (Nat.lt_succ_self _)).free 5
                      have z55 := ((HBX.out.on HB10.out).keep hb5 (Nat.lt_succ_self _)).lt
                      have q57 := (((J1.out.keep HBE.out zz).on HB10.out).keep hb5 (Nat.lt_succ_of_lt zz)).cell (j := 7) rfl
                      have HG5 := Lib.hid hg5
                      have HO5 := Lib.hid hown5
                      obtain ⟨A6, c6, rfl⟩ := own_form hown5
                      clear hown5 hb5 hg5 hnil5 hat5
                      refine hK.out _ _ q57 (fun hHeld => ?_)
                      clear hK K
                      simp only [Act.put, List.getElem_toArray, List.getElem_cons_succ, List.getElem_cons_zero, List.setIfInBounds_toArray, List.set_cons_zero, List.set_cons_succ]
                      refine wpAnyH_take (i := 14) (v := ?_) rfl (by kernel_rfl) (by kernel_rfl) (by kernel_rfl) (fun _ _ _ h => h) (Or.inl ⟨by rfl, ?_⟩) (by assumption) ?_
                      rotate_left
                      · intro w hSw
                        (try dsimp only at hSw)
                        go_simp
                        first | done | with_reducible rfl
                      simp only [Act.put, List.getElem_toArray, List.getElem_cons_succ, List.getElem_cons_zero, List.setIfInBounds_toArray, List.set_cons_zero, List.set_cons_succ]
                      refine wpAnyH_ready (rs := [15]) (by kernel_rfl) (by simp) ?_
                      refine AllReadyH.cons rfl (fun K hK => ?_) AllReadyH.nil
                      go_simp
                      first | (refine hK.out _ _ ?_ (fun hHeld => ?_)) | (go_wp2_with fail; refine hK.out _ _ ?_ (fun hHeld => ?_))
                      · (go_keep; try omega)
                      clear hK K
                      try simp only [Act.put, List.getElem_toArray, List.getElem_cons_succ, List.getElem_cons_zero, List.setIfInBounds_toArray, List.set_cons_zero, List.set_cons_succ]
                      refine wpAnyH_done (by kernel_rfl) ?_ _
                      refine NoPanic.normal ?_
                      have HBF := Lib.hid (show Box (w5.setCell ⟨w1.heap.size, 5, none⟩ (.slice A6 (k + 1) c6)) w1.heap.size (outCs ⟨dst, src, app, seq, iv, [], 0, now + 20, 1, ttl⟩ (.slice A6 (k + 1) c6)) from ((HBX.out.on HB10.out).keep HB5.out (Nat.lt_succ_self _)).set 5 _)
                      have HBE2 := Lib.hid (show Below w1.heap.size w1 (w5.setCell ⟨w1.heap.size, 5, none⟩ (.slice A6 (k + 1) c6)) from ((HBE.out.trans (HB10.out.mono HBE.out.size)).trans (HB5.out.mono (Nat.le_succ _))).setCell (Nat.le_refl _) _)
                      have HOP := Lib.hid (show OwnParts (w5.setCell ⟨w1.heap.size, 5, none⟩ (.slice A6 (k + 1) c6)) (w1.heap.size + 1) (.slice A6 (k + 1) c6) (chunks l (k + 1)) by
                        clear hw12 hmm
                        have hlen : (us ++ [Value.slice A9 mk.length c9]).length = k + 1 := by simp [HK.out.1]
                        refine ⟨us ++ [.slice A9 mk.length c9], by rw [hlen, chunks_len], by rw [chunks_len]; exact own_far HO5.out (Nat.lt_succ_self _) 5 _, fun j u pp hu hp => ?_⟩
                        rw [chunks_succ] at hp
                        by_cases hj : j < k
                        · rw [List.getElem?_append_left (by rw [HK.out.1]; exact hj)] at hu
                          rw [List.getElem?_append_left (by rw [chunks_len]; exact hj)] at hp
                          exact own_far (own_grown_type ((own_on (HK3.out j u pp hu hp) HB10.out).alloc _) (HK9.out.alloc _) (by decide) HG5.out) (Nat.lt_succ_self _) 5 _
                        · have hjk : j = k := by
                            have := (List.getElem?_eq_some_iff.1 hu).1
                            omega
                          subst hjk
                          rw [List.getElem?_append_right (by rw [HK.out.1]; exact Nat.le_refl _), HK.out.1, Nat.sub_self] at hu
                          rw [List.getElem?_append_right (by rw [chunks_len]; exact Nat.le_refl _), chunks_len, Nat.sub_self] at hp
                          simp only [List.getElem?_cons_zero, Option.some.injEq] at hu hp
                          subst hu hp
                          rw [HCH.out]
                          have hx' : OB w9 (w1.heap.size + 1) (.slice A9 mk.length c9) mk := own_base HO9.out (Nat.succ_le_of_lt z5)
                          exact own_far (own_grown_type (hx'.alloc _) (HK9.out.alloc _) (by decide) HG5.out) (Nat.lt_succ_self _) 5 _)
                      clear hHeld e95 f95 z95 q97 e55 f55 z55 q57 e5 f5 z5 q7 z1 zz nb1
                      go_wp2_with fail
                      go_roundw
                      case rel =>
                        have h1 := HP12.out
                        have h2 := HPK.out
                        have h3 := hcnt.out
                        clear hw12 hmm
                        have h4 : p12 = 12 * (k + 1) := by omega
                        exact ⟨k + 1, _, by omega, by rw [h4], HBF.out, HOP.out, HBE2.out⟩
                      case measure =>
                        have h1 := HP12.out
                        clear hw12 hmm
                        simp [intOf]
                        omega
                    · refine step_by _ elB rfl (.tmp 114) (.tmp 122) rfl rfl (OB.nil _) rfl (HSW.out _ (((Below.refl _ _).drew).alloc (Nat.le_refl _) _)) ?_ ?_ ?_
                      · clear hw12 hmm; rw [HFL.out]; simp; omega
                      · simp
                      intro v9 w9 hown9 hb9
                      rw [List.nil_append] at hown9
                      have hb10 : Below wr.heap.size wr w9 := (((Below.refl _ wr).drew).alloc (Nat.le_refl _) _).trans hb9
                      have HB10 := Lib.hid hb10
                      have e95 := (HBX.out.on hb10).cell (j := 5) rfl
                      have f95 := (HBX.out.on hb10).free 5
                      have z95 := (HBX.out.on hb10).lt
                      have q97 := ((J1.out.keep HBE.out zz).on hb10).cell (j := 7) rfl
                      obtain ⟨A9, c9, rfl⟩ := own_slice hown9
                      have HO9 := Lib.hid hown9
                      have HK9 := Lib.hid (own_on HK.out.2 hb10)
                      clear hown9 hb9 hb10
                      refine hK.out _ _ q97 (fun hHeld => ?_)
                      clear hK K
                      simp only [Act.put, List.getElem_toArray, List.getElem_cons_succ, List.getElem_cons_zero, List.setIfInBounds_toArray, List.set_cons_zero, List.set_cons_succ]
                      refine wpAnyH_ready (rs := [1, 12]) (by kernel_rfl) (by simp) ?_
                      refine AllReadyH.cons rfl (fun K hK => ?_) (AllReadyH.cons rfl (fun K hK => ?_) AllReadyH.nil)
                      · go_simp
                        first | (refine hK.out _ _ ?_ (fun hHeld => ?_)) | (go_wp2_with fail; refine hK.out _ _ ?_ (fun hHeld => ?_))
                        · (go_keep; try omega)
                        clear hK K
                        try simp only [Act.put, List.getElem_toArray, List.getElem_cons_succ, List.getElem_cons_zero, List.setIfInBounds_toArray, List.set_cons_zero, List.set_cons_succ]
                        refine wpAnyH_ready (rs := [12]) (by kernel_rfl) (by simp) ?_
                        refine AllReadyH.cons rfl (fun K hK => ?_) AllReadyH.nil
                        go_simp
                        first | (refine hK.out _ _ ?_ (fun hHeld => ?_)) | (go_wp2_with fail; refine hK.out _ _ ?_ (fun hHeld => ?_))
                        · (go_keep; try omega)
                        clear hK K
                        try simp only [Act.put, List.getElem_toArray, List.getElem_cons_succ, List.getElem_cons_zero, List.setIfInBounds_toArray, List.set_cons_zero, List.set_cons_succ]
                        refine wpAnyH_ready (rs := [13]) (by kernel_rfl) (by simp) ?_
                        refine AllReadyH.cons rfl (fun K hK => ?_) AllReadyH.nil
                        refine step_sl _ elP rfl (.tmp 113) (.tmp 124) rfl rfl (HK9.out.alloc _) rfl (Sl.lit _ _ _ 1 rfl (by simp [maxLen])) ?_ ?_ ?_ ?_
                        · intro u hu; simp at hu; subst hu; rfl
                        · clear hw12 hmm; have := hcnt.out; have := HPK.out; omega
                        · exact Nat.le_trans (Nat.succ_le_of_lt z95) (by simp)
                        intro v5 w5 hown5 hg5 hnil5 hat5
                        have hb5 : Below (w1.heap.size + 1) w9 w5 := below_app ((Below.refl _ _).alloc (Nat.succ_le_of_lt z95) _) (HK9.out.alloc _) hg5 (Nat.le_refl _) (Nat.le_trans (Nat.succ_le_of_lt z95) (by simp))
                        have HB5 := Lib.hid hb5
                        have e55 := ((HBX.out.on HB10.out).keep hb5 (Nat.lt_succ_self _)).cell (j := 5) rfl
                        have f55 := ((HBX.out.on HB10.out).keep hb5 (Nat.lt_succ_self _)).free 5
                        have z55 := ((HBX.out.on HB10.out).keep hb5 (Nat.lt_succ_self _)).lt
                        have q57 := (((J1.out.keep HBE.out zz).on HB10.out).keep hb5 (Nat.lt_succ_of_lt zz)).cell (j := 7) rfl
                        have HG5 := Lib.hid hg5
                        have HO5 := Lib.hid hown5
                        obtain ⟨A6, c6, rfl⟩ := own_form hown5
                        clear hown5 hb5 hg5 hnil5 hat5
                        refine hK.out _ _ q57 (fun hHeld => ?_)
                        clear hK K
                        simp only [Act.put, List.getElem_toArray, List.getElem_cons_succ, List.getElem_cons_zero, List.setIfInBounds_toArray, List.set_cons_zero, List.set_cons_succ]
                        refine wpAnyH_take (i := 14) (v := ?_) rfl (by kernel_rfl) (by kernel_rfl) (by kernel_rfl) (fun _ _ _ h => h) (Or.inl ⟨by rfl, ?_⟩) (by assumption) ?_
                        rotate_left
                        · intro w hSw
                          (try dsimp only at hSw)
                          go_simp
                          first | done | with_reducible rfl
                        simp only [Act.put, List.getElem_toArray, List.getElem_cons_succ, List.getElem_cons_zero, List.setIfInBounds_toArray, List.set_cons_zero, List.set_cons_succ]
                        refine wpAnyH_ready (rs := [15]) (by kernel_rfl) (by simp) ?_
                        refine AllReadyH.cons rfl (fun K hK => ?_) AllReadyH.nil
                        go_simp
                        first | (refine hK.out _ _ ?_ (fun hHeld => ?_)) | (go_wp2_with fail; refine hK.out _ _ ?_ (fun hHeld => ?_))
                        · (go_keep; try omega)
                        clear hK K
                        try simp only [Act.put, List.getElem_toArray, List.getElem_cons_succ, List.getElem_cons_zero, List.setIfInBounds_toArray, List.set_cons_zero, List.set_cons_succ]
                        refine wpAnyH_done (by kernel_rfl) ?_ _
                        refine NoPanic.normal ?_
                        have HBF := Lib.hid (show Box (w5.setCell ⟨w1.heap.size, 5, none⟩ (.slice A6 (k + 1) c6)) w1.heap.size (outCs ⟨dst, src, app, seq, iv, [], 0, now + 20, 1, ttl⟩ (.slice A6 (k + 1) c6)) from ((HBX.out.on HB10.out).keep HB5.out (Nat.lt_succ_self _)).set 5 _)
                        have HBE2 := Lib.hid (show Below w1.heap.size w1 (w5.setCell ⟨w1.heap.size, 5, none⟩ (.slice A6 (k + 1) c6)) from ((HBE.out.trans (HB10.out.mono HBE.out.size)).trans (HB5.out.mono (Nat.le_succ _))).setCell (Nat.le_refl _) _)
                        have HOP := Lib.hid (show OwnParts (w5.setCell ⟨w1.heap.size, 5, none⟩ (.slice A6 (k + 1) c6)) (w1.heap.size + 1) (.slice A6 (k + 1) c6) (chunks l (k + 1)) by
                          clear hw12 hmm
                          have hlen : (us ++ [Value.slice A9 mk.length c9]).length = k + 1 := by simp [HK.out.1]
                          refine ⟨us ++ [.slice A9 mk.length c9], by rw [hlen, chunks_len], by rw [chunks_len]; exact own_far HO5.out (Nat.lt_succ_self _) 5 _, fun j u pp hu hp => ?_⟩
                          rw [chunks_succ] at hp
                          by_cases hj : j < k
                          · rw [List.getElem?_append_left (by rw [HK.out.1]; exact hj)] at hu
                            rw [List.getElem?_append_left (by rw [chunks_len]; exact hj)] at hp
                            exact own_far (own_grown_type ((own_on (HK3.out j u pp hu hp) HB10.out).alloc _) (HK9.out.alloc _) (by decide) HG5.out) (Nat.lt_succ_self _) 5 _
                          · have hjk : j = k := by
                              have := (List.getElem?_eq_some_iff.1 hu).1
                              omega
                            subst hjk
                            rw [List.getElem?_append_right (by rw [HK.out.1]; exact Nat.le_refl _), HK.out.1, Nat.sub_self] at hu
                            rw [List.getElem?_append_right (by rw [chunks_len]; exact Nat.le_refl _), chunks_len, Nat.sub_self] at hp
                            simp only [List.getElem?_cons_zero, Option.some.injEq] at hu hp
                            subst hu hp
                            rw [HCH.out]
                            have hx' : OB w9 (w1.heap.size + 1) (.slice A9 mk.length c9) mk := own_base HO9.out (Nat.succ_le_of_lt z5)
                            exact own_far (own_grown_type (hx'.alloc _) (HK9.out.alloc _) (by decide) HG5.out) (Nat.lt_succ_self _) 5 _)
                        clear hHeld e95 f95 z95 q97 e55 f55 z55 q57 e5 f5 z5 q7 z1 zz nb1
                        go_wp2_with fail
                        go_roundw
                        case rel =>
                          have h1 := HP12.out
                          have h2 := HPK.out
                          have h3 := hcnt.out
                          clear hw12 hmm
                          have h4 : p12 = 12 * (k + 1) := by omega
                          exact ⟨k + 1, _, by omega, by rw [h4], HBF.out, HOP.out, HBE2.out⟩
                        case measure =>
                          have h1 := HP12.out
                          clear hw12 hmm
                          simp [intOf]
                          omega
                      · go_simp
                        first | (refine hK.out _ _ ?_ (fun hHeld => ?_)) | (go_wp2_with fail; refine hK.out _ _ ?_ (fun hHeld => ?_))
                        · (go_keep; try omega)
                        clear hK K
                        try simp only [Act.put, List.getElem_toArray, List.getElem_cons_succ, List.getElem_cons_zero, List.setIfInBounds_toArray, List.set_cons_zero, List.set_cons_succ]
                        refine wpAnyH_ready (rs := [1]) (by kernel_rfl) (by simp) ?_
                        refine AllReadyH.cons rfl (fun K hK => ?_) AllReadyH.nil
                        go_simp
                        first | (refine hK.out _ _ ?_ (fun hHeld => ?_)) | (go_wp2_with fail; refine hK.out _ _ ?_ (fun hHeld => ?_))
                        · (go_keep; try omega)
                        clear hK K
                        try simp only [Act.put, List.getElem_toArray, List.getElem_cons_succ, List.getElem_cons_zero, List.setIfInBounds_toArray, List.set_cons_zero, List.set_cons_succ]
                        refine wpAnyH_ready (rs := [13]) (by kernel_rfl) (by simp) ?_
                        refine AllReadyH.cons rfl (fun K hK => ?_) AllReadyH.nil
                        refine step_sl _ elP rfl (.tmp 113) (.tmp 124) rfl rfl (HK9.out.alloc _) rfl (Sl.lit _ _ _ 1 rfl (by simp [maxLen])) ?_ ?_ ?_ ?_
                        · intro u hu; simp at hu; subst hu; rfl
                        · clear hw12 hmm; have := hcnt.out; have := HPK.out; omega
                        · exact Nat.le_trans (Nat.succ_le_of_lt z95) (by simp)
                        intro v5 w5 hown5 hg5 hnil5 hat5
                        have hb5 : Below (w1.heap.size + 1) w9 w5 := below_app ((Below.refl _ _).alloc (Nat.succ_le_of_lt z95) _) (HK9.out.alloc _) hg5 (Nat.le_refl _) (Nat.le_trans (Nat.succ_le_of_lt z95) (by simp))
                        have HB5 := Lib.hid hb5
                        have e55 := ((HBX.out.on HB10.out).keep hb5 (Nat.lt_succ_self _)).cell (j := 5) rfl
                        have f55 := ((HBX.out.on HB10.out).keep hb5 (Nat.lt_succ_self _)).free 5
                        have z55 := ((HBX.out.on HB10.out).keep hb5 (Nat.lt_succ_self _)).lt
                        have q57 := (((J1.out.keep HBE.out zz).on HB10.out).keep hb5 (Nat.lt_succ_of_lt zz)).cell (j := 7) rfl
                        have HG5 := Lib.hid hg5
                        have HO5 := Lib.hid hown5
                        obtain ⟨A6, c6, rfl⟩ := own_form hown5
                        clear hown5 hb5 hg5 hnil5 hat5
                        refine hK.out _ _ q57 (fun hHeld => ?_)
                        clear hK K
                        simp only [Act.put, List.getElem_toArray, List.getElem_cons_succ, List.getElem_cons_zero, List.setIfInBounds_toArray, List.set_cons_zero, List.set_cons_succ]
                        refine wpAnyH_take (i := 14) (v := ?_) rfl (by kernel_rfl) (by kernel_rfl) (by kernel_rfl) (fun _ _ _ h => h) (Or.inl ⟨by rfl, ?_⟩) (by assumption) ?_
                        rotate_left
                        · intro w hSw
                          (try dsimp only at hSw)
                          go_simp
                          first | done | with_reducible rfl
                        simp only [Act.put, List.getElem_toArray, List.getElem_cons_succ, List.getElem_cons_zero, List.setIfInBounds_toArray, List.set_cons_zero, List.set_cons_succ]
                        refine wpAnyH_ready (rs := [15]) (by kernel_rfl) (by simp) ?_
                        refine AllReadyH.cons rfl (fun K hK => ?_) AllReadyH.nil
                        go_simp
                        first | (refine hK.out _ _ ?_ (fun hHeld => ?_)) | (go_wp2_with fail; refine hK.out _ _ ?_ (fun hHeld => ?_))
                        · (go_keep; try omega)
                        clear hK K
                        try simp only [Act.put, List.getElem_toArray, List.getElem_cons_succ, List.getElem_cons_zero, List.setIfInBounds_toArray, List.set_cons_zero, List.set_cons_succ]
                        refine wpAnyH_done (by kernel_rfl) ?_ _
                        refine NoPanic.normal ?_
                        have HBF := Lib.hid (show Box (w5.setCell ⟨w1.heap.size, 5, none⟩ (.slice A6 (k + 1) c6)) w1.heap.size (outCs ⟨dst, src, app, seq, iv, [], 0, now + 20, 1, ttl⟩ (.slice A6 (k + 1) c6)) from ((HBX.out.on HB10.out).keep HB5.out (Nat.lt_succ_self _)).set 5 _)
                        have HBE2 := Lib.hid (show Below w1.heap.size w1 (w5.setCell ⟨w1.heap.size, 5, none⟩ (.slice A6 (k + 1) c6)) from ((HBE.out.trans (HB10.out.mono HBE.out.size)).trans (HB5.out.mono (Nat.le_succ _))).setCell (Nat.le_refl _) _)
                        have HOP := Lib.hid (show OwnParts (w5.setCell ⟨w1.heap.size, 5, none⟩ (.slice A6 (k + 1) c6)) (w1.heap.size + 1) (.slice A6 (k + 1) c6) (chunks l (k + 1)) by
                          clear hw12 hmm
                          have hlen : (us ++ [Value.slice A9 mk.length c9]).length = k + 1 := by simp [HK.out.1]
                          refine ⟨us ++ [.slice A9 mk.length c9], by rw [hlen, chunks_len], by rw [chunks_len]; exact own_far HO5.out (Nat.lt_succ_self _) 5 _, fun j u pp hu hp => ?_⟩
                          rw [chunks_succ] at hp
                          by_cases hj : j < k
                          · rw [List.getElem?_append_left (by rw [HK.out.1]; exact hj)] at hu
                            rw [List.getElem?_append_left (by rw [chunks_len]; exact hj)] at hp
                            exact own_far (own_grown_type ((own_on (HK3.out j u pp hu hp) HB10.out).alloc _) (HK9.out.alloc _) (by decide) HG5.out) (Nat.lt_succ_self _) 5 _
                          · have hjk : j = k := by
                              have := (List.getElem?_eq_some_iff.1 hu).1
                              omega
                            subst hjk
                            rw [List.getElem?_append_right (by rw [HK.out.1]; exact Nat.le_refl _), HK.out.1, Nat.sub_self] at hu
                            rw [List.getElem?_append_right (by rw [chunks_len]; exact Nat.le_refl _), chunks_len, Nat.sub_self] at hp
                            simp only [List.getElem?_cons_zero, Option.some.injEq] at hu hp
                            subst hu hp
                            rw [HCH.out]
                            have hx' : OB w9 (w1.heap.size + 1) (.slice A9 mk.length c9) mk := own_base HO9.out (Nat.succ_le_of_lt z5)
                            exact own_far (own_grown_type (hx'.alloc _) (HK9.out.alloc _) (by decide) HG5.out) (Nat.lt_succ_self _) 5 _)
                        clear hHeld e95 f95 z95 q97 e55 f55 z55 q57 e5 f5 z5 q7 z1 zz nb1
                        go_wp2_with fail
                        go_roundw
                        case rel =>
                          have h1 := HP12.out
                          have h2 := HPK.out
                          have h3 := hcnt.out
                          clear hw12 hmm
                          have h4 : p12 = 12 * (k + 1) := by omega
                          exact ⟨k + 1, _, by omega, by rw [h4], HBF.out, HOP.out, HBE2.out⟩
                        case measure =>
                          have h1 := HP12.out
                          clear hw12 hmm
                          simp [intOf]
                          omega
                · have hkC : k = C := by have := hcnt.out; omega
                  subst hkC
                  obtain ⟨us, k1, k2, k3⟩ := hpv
                  obtain ⟨A5, c5, hpf⟩ := own_form k2
                  rw [hpl] at hpf
                  subst hpf
                  have e5 := hbx.cell (j := 5) rfl
                  have z5 := hbx.lt
                  obtain ⟨W5, rfl⟩ : ∃ W5 : World, W5 = wr := ⟨_, rfl⟩
                  clear k1 k2 k3 hpl hbx hbel hk
                  have hkb : k ≤ 65536 := by have := hcnt.out; omega
                  have hpn : ¬ (p : Int) < (n : Int) := by omega
                  clear hp
                  go_wp2_with fail
                  go_loopw [13, 14] (fun v13 i wr => ∃ j : Nat, j ≤ k ∧ i = .int .i64 j ∧ OwnLows wr (w1.heap.size + 1) v13 (segs ⟨src, dst, app, ttl, ssrc, iv, seq⟩ l now j) ∧ Box wr w1.heap.size (outCs ⟨dst, src, app, seq, iv, [], 0, now + 20, 1, ttl⟩ (.slice A5 k c5)) ∧ OwnParts wr (w1.heap.size + 1) (.slice A5 k c5) (chunks l k) ∧ Below w1.heap.size w1 wr) (fun _ i _ => k - (intOf i).toNat)
                  case atStart => exact ⟨0, Nat.zero_le _, rfl, by simpa [segs] using OwnLows.nil _ _, HBX.out, HPV.out, HBE.out⟩
                  clear HBX HPV HBE e5 z5
                  case round =>
                    obtain ⟨j, hj, rfl, hlo, hbx, hpv, hbel⟩ := hrel
                    have HL6 := Lib.hid hlo
                    have HX6 := Lib.hid hbx
                    have HP6 := Lib.hid hpv
                    have HB6 := Lib.hid hbel
                    have d0 := hbx.cell (j := 0) rfl
                    have d1 := hbx.cell (j := 1) rfl
                    have d2 := hbx.cell (j := 2) rfl
                    have d3 := hbx.cell (j := 3) rfl
                    have d4 := hbx.cell (j := 4) rfl
                    have d5 := hbx.cell (j := 5) rfl
                    have d6 := hbx.cell (j := 6) rfl
                    have d7 := hbx.cell (j := 7) rfl
                    have d8 := hbx.cell (j := 8) rfl
                    have d9 := hbx.cell (j := 9) rfl
                    have y5 := hbx.lt
                    dsimp only at d0 d1 d2 d3 d4 d6 d7 d8 d9
                    by_cases hjk : j < k
                    · have SG := Lib.hid (show Calls Try.prog 64 #[.agg #[.int .u16 (dst : Int), .int .u16 (src : Int), .bool app, .int .u32 (seq : Int), .int .u32 (iv : Int), .slice A5 k c5, .int .u32 0, .int .i64 (now + 20), .int .i64 1, .int .i64 ttl], .int .i64 (j : Int)] wr (SegPost wr (mOut ⟨src, dst, app, ttl, ssrc, iv, seq⟩ l now) j) from rsegment_any (mOut ⟨src, dst, app, ttl, ssrc, iv, seq⟩ l now) j (by show j < (chunks l (cntP l)).length; rw [chunks_len, HC.out]; exact hjk) (by show (chunks l (cntP l)).length ≤ _; rw [chunks_len, HC.out]; have := hcnt.out; omega)
                        (by intro p hp; obtain ⟨i, _, rfl⟩ := List.mem_map.1 (show p ∈ (List.range (cntP l)).map (chunk l) from hp); have := chunk_le l i; omega) hs (.slice A5 k c5) wr (by show PartsV wr wr.heap.size _ (chunks l (cntP l)); rw [HC.out]; exact hpv.reads))
                      clear hlo hbx hpv hbel
                      go_wp2_with fail
                      refine SG.out.mono ?_
                      rintro e w6 ⟨hb6, x, rfl, hx⟩
                      have hgd : (mOut ⟨src, dst, app, ttl, ssrc, iv, seq⟩ l now).parts.getD j [] = chunk l j := by
                        show (chunks l (cntP l)).getD j [] = _
                        rw [HC.out, List.getD_eq_getElem?_getD, chunks_at hjk]
                        rfl
                      rw [hgd] at hx
                      obtain ⟨A7, c7, rfl⟩ := own_slice hx
                      obtain ⟨sg, hsg⟩ : ∃ sg, sg = segL (mOut ⟨src, dst, app, ttl, ssrc, iv, seq⟩ l now) j := ⟨_, rfl⟩
                      rw [← hsg]
                      have HSG := Lib.hid hsg
                      obtain ⟨vs, l1, l2, l3⟩ := HL6.out.on hb6
                      rw [segs_len] at l1 l2
                      obtain ⟨A8, c8, rfl⟩ := own_form l2
                      have HL1 := Lib.hid l1
                      have HL2 := Lib.hid l2
                      have HL3 := Lib.hid l3
                      have HXX := Lib.hid hx
                      have HB66 := Lib.hid hb6
                      have hsz6 := hb6.size
                      clear hb6 hx l1 l2 l3 hsg hgd d0 d1 d2 d3 d4 d5 d6 d7 d8 d9
                      generalize hck : chunk l j = ck at *
                      have HCK := Lib.hid hck
                      clear hck
                      go_wp2_with (first
                        | (at_builtin
                           refine app_sl _ elLo rfl (.tmp 134) (.tmp 138) rfl rfl (HL2.out.alloc _) rfl (Sl.lit _ _ _ 1 rfl (by simp [maxLen])) ?_ ?_ ?_ ?_
                           · exact lowCs_one sg rfl
                           · have := hcnt.out; omega
                           · exact Nat.le_trans (Nat.le_trans (Nat.succ_le_of_lt y5) hsz6) (by simp)
                           intro v9 w9 hown9 hg9 hnil9 hat9)
                        | fail)
                      have hb9 : Below (w1.heap.size + 1) w6 w9 := below_app ((Below.refl _ _).alloc (Nat.le_trans (Nat.succ_le_of_lt y5) hsz6) _) (HL2.out.alloc _) hg9 (Nat.le_refl _) (Nat.le_trans (Nat.le_trans (Nat.succ_le_of_lt y5) hsz6) (by simp))
                      have HOL := Lib.hid (show OwnLows w9 (w1.heap.size + 1) v9 (segs ⟨src, dst, app, ttl, ssrc, iv, seq⟩ l now (j + 1)) by
                        have hlen : (vs ++ [Value.slice A7 ck.length c7]).length = j + 1 := by simp [HL1.out]
                        refine ⟨vs ++ [.slice A7 ck.length c7], by rw [hlen, segs_len], ?_, fun i p u hp hu => ?_⟩
                        · rw [segs_len, segs_succ, flat2_append _ _ _ _ (by rw [HL1.out, segs_len]), flat2_one, ← HSG.out]
                          exact hown9
                        · rw [segs_succ] at hp
                          by_cases hi : i < j
                          · rw [List.getElem?_append_left (by rw [HL1.out]; exact hi)] at hu
                            rw [List.getElem?_append_left (by rw [segs_len]; exact hi)] at hp
                            exact own_grown_type ((HL3.out i p u hp hu).alloc _) (HL2.out.alloc _) (by decide) hg9
                          · have hij : i = j := by
                              have := (List.getElem?_eq_some_iff.1 hu).1
                              omega
                            subst hij
                            rw [List.getElem?_append_right (by rw [HL1.out]; exact Nat.le_refl _), HL1.out, Nat.sub_self] at hu
                            rw [List.getElem?_append_right (by rw [segs_len]; exact Nat.le_refl _), segs_len, Nat.sub_self] at hp
                            simp only [List.getElem?_cons_zero, Option.some.injEq] at hu hp
                            subst hu hp
                            show OB w9 (w1.heap.size + 1) _ (chunk l i)
                            rw [HCK.out]
                            have hx' : OB w6 (w1.heap.size + 1) (.slice A7 ck.length c7) ck := own_base HXX.out (Nat.succ_le_of_lt y5)
                            exact own_grown_type (hx'.alloc _) (HL2.out.alloc _) (by decide) hg9)
                      have HOX := Lib.hid ((HX6.out.on HB66.out).keep hb9 (Nat.lt_succ_self _))
                      have HOP := Lib.hid (((HP6.out.on HB66.out).on (al1 w6 _)).grown (HL2.out.alloc _) (by decide) (by decide) hg9)
                      have HOB := Lib.hid ((HB6.out.trans (HB66.out.mono HB6.out.size)).trans (hb9.mono (Nat.le_succ _)))
                      clear hown9 hg9 hnil9 hat9 hb9
                      go_wp2_with fail
                      go_roundw
                      case rel => exact ⟨j + 1, by omega, by go_num, HOL.out, HOX.out, HOP.out, HOB.out⟩
                      case measure => simp [intOf]; omega
                    · have hjk' : j = k := by omega
                      subst hjk'
                      have b0 := (J0.out.keep hbel J0.out.lt).cell (j := 0) rfl
                      have b1 := (J0.out.keep hbel J0.out.lt).cell (j := 1) rfl
                      have y0 := (J0.out.keep hbel J0.out.lt).lt
                      obtain ⟨A8, c8, rfl⟩ : ∃ A8 c8, u13 = .slice A8 j c8 := by
                        obtain ⟨vs, _, k2, _⟩ := hlo
                        rw [segs_len] at k2
                        exact own_form k2
                      obtain ⟨vs, v1, v2, v3⟩ := HV.out
                      rw [HN.out] at v1 v2
                      have HVL := Lib.hid v1
                      have HVP := Lib.hid v3
                      have HONE := Lib.hid (show ∀ u ∈ flat2 outCs os vs, u.oneCell' = true from fun u hu => flat2_cells (fun o v => outCs_one o) os vs (fun v hv => by
                        obtain ⟨q, hq, rfl⟩ := List.getElem_of_mem hv
                        exact partsV_one (v3 q _ _ (List.getElem?_eq_getElem (by rw [HN.out]; omega)) (List.getElem?_eq_getElem hq))) u hu)
                      have HSW := Lib.hid (fun W' (hW' : Below wr.heap.size wr W') => v2.below ((HB1.out.trans (HB6.out.mono HB1.out.size)).trans (hW'.mono (Nat.le_trans HB1.out.size HB6.out.size))))
                      have nb0 : w.heap.size ≠ w1.heap.size := by have := JZ.out; omega
                      clear hlo hbx hpv hbel v1 v2 v3
                      go_upto_region 25 with fail
                      refine wp_region_noPanic ?_
                      refine wp_region_held_drew (S := fun w' => w'.cell? ⟨w1.heap.size, 0, none⟩ = some (.int .u16 (dst : Int)) ∧ w'.cell? ⟨w1.heap.size, 1, none⟩ = some (.int .u16 (src : Int)) ∧ w'.cell? ⟨w1.heap.size, 2, none⟩ = some (.bool app) ∧ w'.cell? ⟨w1.heap.size, 3, none⟩ = some (.int .u32 (seq : Int)) ∧ w'.cell? ⟨w1.heap.size, 4, none⟩ = some (.int .u32 (iv : Int)) ∧ w'.cell? ⟨w1.heap.size, 5, none⟩ = some (.slice A5 j c5) ∧ w'.cell? ⟨w1.heap.size, 6, none⟩ = some (.int .u32 0) ∧ w'.cell? ⟨w1.heap.size, 7, none⟩ = some (.int .i64 (now + 20)) ∧ w'.cell? ⟨w1.heap.size, 8, none⟩ = some (.int .i64 1) ∧ w'.cell? ⟨w1.heap.size, 9, none⟩ = some (.int .i64 ttl)) (by kernel_rfl) (by (go_keep; try omega)) (fun hHeld => ?_)
                      refine wpAnyH_take (i := 1) (v := ?_) rfl (by kernel_rfl) (by kernel_rfl) (by kernel_rfl) (fun _ _ _ h => h) (Or.inl ⟨by rfl, ?_⟩) (by assumption) ?_
                      rotate_left
                      · intro w hSw
                        (try dsimp only at hSw)
                        go_simp
                        first | done | with_reducible rfl
                      simp only [Act.put, List.getElem_toArray, List.getElem_cons_succ, List.getElem_cons_zero, List.setIfInBounds_toArray, List.set_cons_zero, List.set_cons_succ]
                      refine wpAnyH_take (i := 4) (v := ?_) rfl (by kernel_rfl) (by kernel_rfl) (by kernel_rfl) (fun _ _ _ h => h) (Or.inl ⟨by rfl, ?_⟩) (by assumption) ?_
                      rotate_left
                      · intro w hSw
                        (try dsimp only at hSw)
                        go_simp
                        first | done | with_reducible rfl
                      simp only [Act.put, List.getElem_toArray, List.getElem_cons_succ, List.getElem_cons_zero, List.setIfInBounds_toArray, List.set_cons_zero, List.set_cons_succ]
                      refine wpAnyH_ready (rs := [0, 2, 5]) (by kernel_rfl) (by simp) ?_
                      refine AllReadyH.cons rfl (fun K hK => ?_) (AllReadyH.cons rfl (fun K hK => ?_) (AllReadyH.cons rfl (fun K hK => ?_) AllReadyH.nil))
                      · go_simp
                        first | (refine hK.out _ _ ?_ (fun hHeld => ?_)) | (go_wp2_with fail; refine hK.out _ _ ?_ (fun hHeld => ?_))
                        · (go_keep; try omega)
                        clear hK K
                        try simp only [Act.put, List.getElem_toArray, List.getElem_cons_succ, List.getElem_cons_zero, List.setIfInBounds_toArray, List.set_cons_zero, List.set_cons_succ]
                        refine wpAnyH_ready (rs := [2, 5]) (by kernel_rfl) (by simp) ?_
                        refine AllReadyH.cons rfl (fun K hK => ?_) (AllReadyH.cons rfl (fun K hK => ?_) AllReadyH.nil)
                        · go_simp
                          first | (refine hK.out _ _ ?_ (fun hHeld => ?_)) | (go_wp2_with fail; refine hK.out _ _ ?_ (fun hHeld => ?_))
                          · (go_keep; try omega)
                          clear hK K
                          try simp only [Act.put, List.getElem_toArray, List.getElem_cons_succ, List.getElem_cons_zero, List.setIfInBounds_toArray, List.set_cons_zero, List.set_cons_succ]
                          refine wpAnyH_ready (rs := [3, 5]) (by kernel_rfl) (by simp) ?_
                          refine AllReadyH.cons rfl (fun K hK => ?_) (AllReadyH.cons rfl (fun K hK => ?_) AllReadyH.nil)
                          · have HOWN := Lib.hid (show (wr.drew.alloc (.cells #[] 75)).ownsRow wr.heap.size 75 10 (.slice (some ⟨wr.heap.size, 0, none⟩) 0 0) 0 [] from own_nil wr.drew _ 10)
                            have HBW := Lib.hid (show Below wr.heap.size wr (wr.drew.alloc (.cells #[] 75)) from ((Below.refl wr.heap.size wr).drew).alloc (Nat.le_refl _) _)
                            refine step_sl _ elO rfl (.tmp 140) (.tmp 142) rfl rfl HOWN.out rfl (HSW.out _ HBW.out) ?_ ?_ ?_ ?_
                            · exact HONE.out
                            · omega
                            · exact HBW.out.size
                            intro v9 w9 hown9 hg9 hnil9 hat9
                            rw [Nat.zero_add, List.nil_append] at hown9
                            have hb10 : Below wr.heap.size wr w9 := below_app HBW.out HOWN.out hg9 (Nat.le_refl _) HBW.out.size
                            have HB10 := Lib.hid hb10
                            have HX9 := Lib.hid (HX6.out.on hb10)
                            have g0 := HX9.out.cell (j := 0) rfl
                            have g1 := HX9.out.cell (j := 1) rfl
                            have g2 := HX9.out.cell (j := 2) rfl
                            have g3 := HX9.out.cell (j := 3) rfl
                            have g4 := HX9.out.cell (j := 4) rfl
                            have g5 := HX9.out.cell (j := 5) rfl
                            have g6 := HX9.out.cell (j := 6) rfl
                            have g7 := HX9.out.cell (j := 7) rfl
                            have g8 := HX9.out.cell (j := 8) rfl
                            have g9 := HX9.out.cell (j := 9) rfl
                            have y9 := HX9.out.lt
                            have k0 := ((J0.out.keep HB6.out J0.out.lt).on hb10).cell (j := 0) rfl
                            have kz := ((J0.out.keep HB6.out J0.out.lt).on hb10).lt
                            have kf := ((J0.out.keep HB6.out J0.out.lt).on hb10).free 0
                            dsimp only at g0 g1 g2 g3 g4 g6 g7 g8 g9
                            obtain ⟨A9, c9, rfl⟩ := own_form hown9
                            have HO9 := Lib.hid hown9
                            clear hown9 hg9 hnil9 hat9 hb10
                            refine hK.out _ _ ⟨g0, g1, g2, g3, g4, g5, g6, g7, g8, g9⟩ (fun hHeld => ?_)
                            clear hK K
                            simp only [Act.put, List.getElem_toArray, List.getElem_cons_succ, List.getElem_cons_zero, List.setIfInBounds_toArray, List.set_cons_zero, List.set_cons_succ]
                            refine wpAnyH_ready (rs := [5]) (by kernel_rfl) (by simp) ?_
                            refine AllReadyH.cons rfl (fun K hK => ?_) AllReadyH.nil
                            go_simp
                            first | (refine hK.out _ _ ?_ (fun hHeld => ?_)) | (go_wp2_with fail; refine hK.out _ _ ?_ (fun hHeld => ?_))
                            · (go_keep; try omega)
                            clear hK K
                            try simp only [Act.put, List.getElem_toArray, List.getElem_cons_succ, List.getElem_cons_zero, List.setIfInBounds_toArray, List.set_cons_zero, List.set_cons_succ]
                            refine wpAnyH_ready (rs := [6]) (by kernel_rfl) (by simp) ?_
                            refine AllReadyH.cons rfl (fun K hK => ?_) AllReadyH.nil
                            refine step_sl _ elO rfl (.tmp 143) (.tmp 145) rfl rfl (HO9.out.alloc _) rfl (Sl.lit _ _ _ 1 rfl (by simp [maxLen])) ?_ ?_ ?_ ?_
                            · exact outCs_one (mOut ⟨src, dst, app, ttl, ssrc, iv, seq⟩ l now) (v := .slice A5 j c5) rfl
                            · omega
                            · exact Nat.le_trans HB10.out.size (by simp)
                            intro v8 w8 hown8 hg8 hnil8 hat8
                            have hb8 : Below wr.heap.size wr w8 := below_app (HB10.out.alloc HB10.out.size _) (HO9.out.alloc _) hg8 (Nat.le_refl _) (Nat.le_trans HB10.out.size (by simp))
                            have HB8 := Lib.hid hb8
                            have HX8 := Lib.hid (HX6.out.on hb8)
                            have m0 := HX8.out.cell (j := 0) rfl
                            have m1 := HX8.out.cell (j := 1) rfl
                            have m2 := HX8.out.cell (j := 2) rfl
                            have m3 := HX8.out.cell (j := 3) rfl
                            have m4 := HX8.out.cell (j := 4) rfl
                            have m5 := HX8.out.cell (j := 5) rfl
                            have m6 := HX8.out.cell (j := 6) rfl
                            have m7 := HX8.out.cell (j := 7) rfl
                            have m8 := HX8.out.cell (j := 8) rfl
                            have m9 := HX8.out.cell (j := 9) rfl
                            dsimp only at m0 m1 m2 m3 m4 m6 m7 m8 m9
                            have y8 := HX8.out.lt
                            have t0 := ((J0.out.keep HB6.out J0.out.lt).on hb8).cell (j := 0) rfl
                            have tz := ((J0.out.keep HB6.out J0.out.lt).on hb8).lt
                            have tf := ((J0.out.keep HB6.out J0.out.lt).on hb8).free 0
                            obtain ⟨A6, c6, rfl⟩ := own_form hown8
                            have HO8 := Lib.hid hown8
                            clear hown8 hg8 hnil8 hat8 hb8
                            refine hK.out _ _ ⟨m0, m1, m2, m3, m4, m5, m6, m7, m8, m9⟩ (fun hHeld => ?_)
                            clear hK K
                            simp only [Act.put, List.getElem_toArray, List.getElem_cons_succ, List.getElem_cons_zero, List.setIfInBounds_toArray, List.set_cons_zero, List.set_cons_succ]
                            refine wpAnyH_take (i := 7) (v := ?_) rfl (by kernel_rfl) (by kernel_rfl) (by kernel_rfl) (fun _ _ _ h => h) (Or.inl ⟨by rfl, ?_⟩) (by assumption) ?_
                            rotate_left
                            · intro w hSw
                              (try dsimp only at hSw)
                              go_simp
                              first | done | with_reducible rfl
                            simp only [Act.put, List.getElem_toArray, List.getElem_cons_succ, List.getElem_cons_zero, List.setIfInBounds_toArray, List.set_cons_zero, List.set_cons_succ]
                            refine wpAnyH_ready (rs := [8]) (by kernel_rfl) (by simp) ?_
                            refine AllReadyH.cons rfl (fun K hK => ?_) AllReadyH.nil
                            go_simp
                            first | (refine hK.out _ _ ?_ (fun hHeld => ?_)) | (go_wp2_with fail; refine hK.out _ _ ?_ (fun hHeld => ?_))
                            · (go_keep; try omega)
                            clear hK K
                            try simp only [Act.put, List.getElem_toArray, List.getElem_cons_succ, List.getElem_cons_zero, List.setIfInBounds_toArray, List.set_cons_zero, List.set_cons_succ]
                            refine wpAnyH_done (by kernel_rfl) ?_ _
                            refine NoPanic.normal ?_
                            obtain ⟨Y, hY⟩ : ∃ Y, Y = w8.setCell ⟨w.heap.size, 0, none⟩ (.slice A6 (N + 1) c6) := ⟨_, rfl⟩
                            have hBW : Below w.heap.size w w8 := (HB1.out.trans (HB6.out.mono HB1.out.size)).trans (HB8.out.mono (Nat.le_trans HB1.out.size HB6.out.size))
                            have h18 : Below w1.heap.size w1 w8 := HB6.out.trans (HB8.out.mono HB6.out.size)
                            have HYB := Lib.hid (show Below w.heap.size w Y by rw [hY]; exact hBW.setCell (p := ⟨w.heap.size, 0, none⟩) (Nat.le_refl _) _)
                            have hYJ : Box Y w.heap.size [.slice A6 (N + 1) c6, .slice A2 M c2] := by rw [hY]; exact (J0.out.on h18).set 0 _
                            have hY2 : Box Y (w.heap.size + 1 + 1) [.slice none 0 0, .slice none 0 0] := by rw [hY]; exact (J2.out.on h18).far (show w.heap.size + 1 + 1 ≠ w.heap.size by omega) _
                            have HYO := Lib.hid (show Y.ownsRow wr.heap.size 75 10 (.slice A6 (N + 1) c6) (N + 1) (flat2 outCs os vs ++ outCs (mOut ⟨src, dst, app, ttl, ssrc, iv, seq⟩ l now) (.slice A5 j c5)) by rw [hY]; exact own_far HO8.out (by have := JZ.out; omega) 0 _)
                            have HYP := Lib.hid (show OwnParts Y (w1.heap.size + 1) (.slice A5 j c5) (chunks l j) by rw [hY]; exact (HP6.out.on HB8.out).far (by have := JZ.out; omega) 0 _)
                            have HYL := Lib.hid (show OwnLows Y (w1.heap.size + 1) (.slice A8 j c8) (segs ⟨src, dst, app, ttl, ssrc, iv, seq⟩ l now j) by rw [hY]; exact (HL6.out.on HB8.out).far (by have := JZ.out; omega) 0 _)
                            rw [← hY]
                            clear hY hHeld d0 d1 d2 d3 d4 d5 d6 d7 d8 d9 m0 m1 m2 m3 m4 m5 m6 m7 m8 m9 g0 g1 g2 g3 g4 g5 g6 g7 g8 g9 y5 y8 y9 t0 tz tf k0 kz kf b0 b1 y0
                            have p0 := hYJ.cell (j := 0) rfl
                            have p1 := hYJ.cell (j := 1) rfl
                            have r0 := hY2.cell (j := 0) rfl
                            have r1 := hY2.cell (j := 1) rfl
                            have f0 := hY2.free 0
                            have f1 := hY2.free 1
                            have z0 := hYJ.lt
                            have z2 := hY2.lt
                            have HY2 := Lib.hid hY2
                            clear hYJ hY2 h18 hBW
                            go_wp2_with fail
                            obtain ⟨Z, hZ⟩ : ∃ Z, Z = Y.setCells (w.heap.size + 1 + 1) 0 [.slice A6 (N + 1) c6, .slice A2 M c2] := ⟨_, rfl⟩
                            have zr : w.heap.size + 1 + 1 < w1.heap.size + 1 := by have := JZ.out; omega
                            have zw : w.heap.size + 1 + 1 < wr.heap.size := by have := JZ.out; have := HB6.out.size; omega
                            have hZB : Below w.heap.size w Z := by rw [hZ]; exact below_puts (b := w.heap.size + 1 + 1) (by omega) 0 _ HYB.out
                            have hZR : Box Z (w.heap.size + 1 + 1) [.slice A6 (N + 1) c6, .slice A2 M c2] := by rw [hZ]; exact HY2.out.put _ rfl
                            have hZO : Z.ownsRow wr.heap.size 75 10 (.slice A6 (N + 1) c6) (N + 1) (flat2 outCs os vs ++ outCs (mOut ⟨src, dst, app, ttl, ssrc, iv, seq⟩ l now) (.slice A5 j c5)) := by rw [hZ]; exact own_far (own_far HYO.out zw 0 _) zw 1 _
                            have hZP : OwnParts Z (w1.heap.size + 1) (.slice A5 j c5) (chunks l j) := by rw [hZ]; exact (HYP.out.far zr 0 _).far zr 1 _
                            have hZL : OwnLows Z (w1.heap.size + 1) (.slice A8 j c8) (segs ⟨src, dst, app, ttl, ssrc, iv, seq⟩ l now j) := by rw [hZ]; exact (HYL.out.far zr 0 _).far zr 1 _
                            rw [show (Y.setCell ⟨w.heap.size + 1 + 1, 0, none⟩ (.slice A6 (N + 1) c6)).setCell ⟨w.heap.size + 1 + 1, 1, none⟩ (.slice A2 M c2) = Z from hZ.symm]
                            clear hZ
                            refine bodyPost_ret (res_tr3 rfl _ _ (w.heap.size + 1 + 1) (.slice A6 (N + 1) c6) (.slice A2 M c2) rfl hZR) rfl (HOK.out _ _ _ _ _ rfl hZB ?_ ?_ ?_)
                            · rw [HSO1.out]
                              refine ⟨vs ++ [.slice A5 j c5], by simp [HVL.out, HN.out], ?_, parts_snoc (pf := OutS.parts) (HVL.out.trans HN.out.symm) (fun i o u hi hu => ((HVP.out i o u hi hu).on hZB)) ?_⟩
                              · rw [flat2_append _ _ _ _ (HVL.out.trans HN.out.symm), flat2_one, show (os ++ [mOut ⟨src, dst, app, ttl, ssrc, iv, seq⟩ l now]).length = N + 1 by simp [HN.out]]
                                exact Sl.of_own hZO
                              · show PartsV _ _ _ (chunks l (cntP l))
                                rw [HC.out]
                                exact hZP.reads
                            · exact HU.out.on hZB
                            · rw [HSL1.out]
                              exact hZL.reads
                          · go_simp
                            first | (refine hK.out _ _ ?_ (fun hHeld => ?_)) | (go_wp2_with fail; refine hK.out _ _ ?_ (fun hHeld => ?_))
                            · (go_keep; try omega)
                            clear hK K
                            try simp only [Act.put, List.getElem_toArray, List.getElem_cons_succ, List.getElem_cons_zero, List.setIfInBounds_toArray, List.set_cons_zero, List.set_cons_succ]
                            refine wpAnyH_ready (rs := [3]) (by kernel_rfl) (by simp) ?_
                            refine AllReadyH.cons rfl (fun K hK => ?_) AllReadyH.nil
                            have HOWN := Lib.hid (show ((wr.drew.alloc (.cells #[] 75)).alloc (.cells #[.int .u16 (dst : Int), .int .u16 (src : Int), .bool app, .int .u32 (seq : Int), .int .u32 (iv : Int), .slice A5 j c5, .int .u32 0, .int .i64 (now + 20), .int .i64 1, .int .i64 ttl] 75)).ownsRow wr.heap.size 75 10 (.slice (some ⟨wr.heap.size, 0, none⟩) 0 0) 0 [] from World.ownsRow.alloc (own_nil wr.drew _ 10) _)
                            have HBW := Lib.hid (show Below wr.heap.size wr ((wr.drew.alloc (.cells #[] 75)).alloc (.cells #[.int .u16 (dst : Int), .int .u16 (src : Int), .bool app, .int .u32 (seq : Int), .int .u32 (iv : Int), .slice A5 j c5, .int .u32 0, .int .i64 (now + 20), .int .i64 1, .int .i64 ttl] 75)) from (((Below.refl wr.heap.size wr).drew).alloc (Nat.le_refl _) _).alloc (by simp) _)
                            refine step_sl _ elO rfl (.tmp 140) (.tmp 142) rfl rfl HOWN.out rfl (HSW.out _ HBW.out) ?_ ?_ ?_ ?_
                            · exact HONE.out
                            · omega
                            · exact HBW.out.size
                            intro v9 w9 hown9 hg9 hnil9 hat9
                            rw [Nat.zero_add, List.nil_append] at hown9
                            have hb10 : Below wr.heap.size wr w9 := below_app HBW.out HOWN.out hg9 (Nat.le_refl _) HBW.out.size
                            have HB10 := Lib.hid hb10
                            have H5 := Lib.hid (show Box w9 (wr.heap.size + 1) (outCs ⟨dst, src, app, seq, iv, [], 0, now + 20, 1, ttl⟩ (.slice A5 j c5)) from Box.grown (show Box ((wr.drew.alloc (.cells #[] 75)).alloc (.cells #[.int .u16 (dst : Int), .int .u16 (src : Int), .bool app, .int .u32 (seq : Int), .int .u32 (iv : Int), .slice A5 j c5, .int .u32 0, .int .i64 (now + 20), .int .i64 1, .int .i64 ttl] 75)) (wr.heap.size + 1) (outCs ⟨dst, src, app, seq, iv, [], 0, now + 20, 1, ttl⟩ (.slice A5 j c5)) from ⟨75, by rw [heap_al, if_pos (by simp)]; rfl⟩) hg9 (show (some (wr.heap.size + 1) : Option Nat) ≠ some wr.heap.size by simp))
                            have HX9 := Lib.hid (HX6.out.on hb10)
                            have g0 := HX9.out.cell (j := 0) rfl
                            have g1 := HX9.out.cell (j := 1) rfl
                            have g2 := HX9.out.cell (j := 2) rfl
                            have g3 := HX9.out.cell (j := 3) rfl
                            have g4 := HX9.out.cell (j := 4) rfl
                            have g5 := HX9.out.cell (j := 5) rfl
                            have g6 := HX9.out.cell (j := 6) rfl
                            have g7 := HX9.out.cell (j := 7) rfl
                            have g8 := HX9.out.cell (j := 8) rfl
                            have g9 := HX9.out.cell (j := 9) rfl
                            have y9 := HX9.out.lt
                            have k0 := ((J0.out.keep HB6.out J0.out.lt).on hb10).cell (j := 0) rfl
                            have kz := ((J0.out.keep HB6.out J0.out.lt).on hb10).lt
                            have kf := ((J0.out.keep HB6.out J0.out.lt).on hb10).free 0
                            dsimp only at g0 g1 g2 g3 g4 g6 g7 g8 g9
                            obtain ⟨A9, c9, rfl⟩ := own_form hown9
                            have HO9 := Lib.hid hown9
                            clear hown9 hg9 hnil9 hat9 hb10
                            refine hK.out _ _ ⟨g0, g1, g2, g3, g4, g5, g6, g7, g8, g9⟩ (fun hHeld => ?_)
                            clear hK K
                            simp only [Act.put, List.getElem_toArray, List.getElem_cons_succ, List.getElem_cons_zero, List.setIfInBounds_toArray, List.set_cons_zero, List.set_cons_succ]
                            refine wpAnyH_ready (rs := [6]) (by kernel_rfl) (by simp) ?_
                            refine AllReadyH.cons rfl (fun K hK => ?_) AllReadyH.nil
                            refine step_sl _ elO rfl (.tmp 143) (.tmp 145) rfl rfl HO9.out rfl (Sl.of_box H5.out 1 rfl (by simp [maxLen])) ?_ ?_ ?_ ?_
                            · exact outCs_one (mOut ⟨src, dst, app, ttl, ssrc, iv, seq⟩ l now) (v := .slice A5 j c5) rfl
                            · omega
                            · exact HB10.out.size
                            intro v8 w8 hown8 hg8 hnil8 hat8
                            have hb8 : Below wr.heap.size wr w8 := below_app HB10.out HO9.out hg8 (Nat.le_refl _) (HB10.out.size)
                            have HB8 := Lib.hid hb8
                            have HX8 := Lib.hid (HX6.out.on hb8)
                            have m0 := HX8.out.cell (j := 0) rfl
                            have m1 := HX8.out.cell (j := 1) rfl
                            have m2 := HX8.out.cell (j := 2) rfl
                            have m3 := HX8.out.cell (j := 3) rfl
                            have m4 := HX8.out.cell (j := 4) rfl
                            have m5 := HX8.out.cell (j := 5) rfl
                            have m6 := HX8.out.cell (j := 6) rfl
                            have m7 := HX8.out.cell (j := 7) rfl
                            have m8 := HX8.out.cell (j := 8) rfl
                            have m9 := HX8.out.cell (j := 9) rfl
                            dsimp only at m0 m1 m2 m3 m4 m6 m7 m8 m9
                            have y8 := HX8.out.lt
                            have t0 := ((J0.out.keep HB6.out J0.out.lt).on hb8).cell (j := 0) rfl
                            have tz := ((J0.out.keep HB6.out J0.out.lt).on hb8).lt
                            have tf := ((J0.out.keep HB6.out J0.out.lt).on hb8).free 0
                            obtain ⟨A6, c6, rfl⟩ := own_form hown8
                            have HO8 := Lib.hid hown8
                            clear hown8 hg8 hnil8 hat8 hb8
                            refine hK.out _ _ ⟨m0, m1, m2, m3, m4, m5, m6, m7, m8, m9⟩ (fun hHeld => ?_)
                            clear hK K
                            simp only [Act.put, List.getElem_toArray, List.getElem_cons_succ, List.getElem_cons_zero, List.setIfInBounds_toArray, List.set_cons_zero, List.set_cons_succ]
                            refine wpAnyH_take (i := 7) (v := ?_) rfl (by kernel_rfl) (by kernel_rfl) (by kernel_rfl) (fun _ _ _ h => h) (Or.inl ⟨by rfl, ?_⟩) (by assumption) ?_
                            rotate_left
                            · intro w hSw
                              (try dsimp only at hSw)
                              go_simp
                              first | done | with_reducible rfl
                            simp only [Act.put, List.getElem_toArray, List.getElem_cons_succ, List.getElem_cons_zero, List.setIfInBounds_toArray, List.set_cons_zero, List.set_cons_succ]
                            refine wpAnyH_ready (rs := [8]) (by kernel_rfl) (by simp) ?_
                            refine AllReadyH.cons rfl (fun K hK => ?_) AllReadyH.nil
                            go_simp
                            first | (refine hK.out _ _ ?_ (fun hHeld => ?_)) | (go_wp2_with fail; refine hK.out _ _ ?_ (fun hHeld => ?_))
                            · (go_keep; try omega)
                            clear hK K
                            try simp only [Act.put, List.getElem_toArray, List.getElem_cons_succ, List.getElem_cons_zero, List.setIfInBounds_toArray, List.set_cons_zero, List.set_cons_succ]
                            refine wpAnyH_done (by kernel_rfl) ?_ _
                            refine NoPanic.normal ?_
                            obtain ⟨Y, hY⟩ : ∃ Y, Y = w8.setCell ⟨w.heap.size, 0, none⟩ (.slice A6 (N + 1) c6) := ⟨_, rfl⟩
                            have hBW : Below w.heap.size w w8 := (HB1.out.trans (HB6.out.mono HB1.out.size)).trans (HB8.out.mono (Nat.le_trans HB1.out.size HB6.out.size))
                            have h18 : Below w1.heap.size w1 w8 := HB6.out.trans (HB8.out.mono HB6.out.size)
                            have HYB := Lib.hid (show Below w.heap.size w Y by rw [hY]; exact hBW.setCell (p := ⟨w.heap.size, 0, none⟩) (Nat.le_refl _) _)
                            have hYJ : Box Y w.heap.size [.slice A6 (N + 1) c6, .slice A2 M c2] := by rw [hY]; exact (J0.out.on h18).set 0 _
                            have hY2 : Box Y (w.heap.size + 1 + 1) [.slice none 0 0, .slice none 0 0] := by rw [hY]; exact (J2.out.on h18).far (show w.heap.size + 1 + 1 ≠ w.heap.size by omega) _
                            have HYO := Lib.hid (show Y.ownsRow wr.heap.size 75 10 (.slice A6 (N + 1) c6) (N + 1) (flat2 outCs os vs ++ outCs (mOut ⟨src, dst, app, ttl, ssrc, iv, seq⟩ l now) (.slice A5 j c5)) by rw [hY]; exact own_far HO8.out (by have := JZ.out; omega) 0 _)
                            have HYP := Lib.hid (show OwnParts Y (w1.heap.size + 1) (.slice A5 j c5) (chunks l j) by rw [hY]; exact (HP6.out.on HB8.out).far (by have := JZ.out; omega) 0 _)
                            have HYL := Lib.hid (show OwnLows Y (w1.heap.size + 1) (.slice A8 j c8) (segs ⟨src, dst, app, ttl, ssrc, iv, seq⟩ l now j) by rw [hY]; exact (HL6.out.on HB8.out).far (by have := JZ.out; omega) 0 _)
                            rw [← hY]
                            clear hY hHeld d0 d1 d2 d3 d4 d5 d6 d7 d8 d9 m0 m1 m2 m3 m4 m5 m6 m7 m8 m9 g0 g1 g2 g3 g4 g5 g6 g7 g8 g9 y5 y8 y9 t0 tz tf k0 kz kf b0 b1 y0
                            have p0 := hYJ.cell (j := 0) rfl
                            have p1 := hYJ.cell (j := 1) rfl
                            have r0 := hY2.cell (j := 0) rfl
                            have r1 := hY2.cell (j := 1) rfl
                            have f0 := hY2.free 0
                            have f1 := hY2.free 1
                            have z0 := hYJ.lt
                            have z2 := hY2.lt
                            have HY2 := Lib.hid hY2
                            clear hYJ hY2 h18 hBW
                            go_wp2_with fail
                            obtain ⟨Z, hZ⟩ : ∃ Z, Z = Y.setCells (w.heap.size + 1 + 1) 0 [.slice A6 (N + 1) c6, .slice A2 M c2] := ⟨_, rfl⟩
                            have zr : w.heap.size + 1 + 1 < w1.heap.size + 1 := by have := JZ.out; omega
                            have zw : w.heap.size + 1 + 1 < wr.heap.size := by have := JZ.out; have := HB6.out.size; omega
                            have hZB : Below w.heap.size w Z := by rw [hZ]; exact below_puts (b := w.heap.size + 1 + 1) (by omega) 0 _ HYB.out
                            have hZR : Box Z (w.heap.size + 1 + 1) [.slice A6 (N + 1) c6, .slice A2 M c2] := by rw [hZ]; exact HY2.out.put _ rfl
                            have hZO : Z.ownsRow wr.heap.size 75 10 (.slice A6 (N + 1) c6) (N + 1) (flat2 outCs os vs ++ outCs (mOut ⟨src, dst, app, ttl, ssrc, iv, seq⟩ l now) (.slice A5 j c5)) := by rw [hZ]; exact own_far (own_far HYO.out zw 0 _) zw 1 _
                            have hZP : OwnParts Z (w1.heap.size + 1) (.slice A5 j c5) (chunks l j) := by rw [hZ]; exact (HYP.out.far zr 0 _).far zr 1 _
                            have hZL : OwnLows Z (w1.heap.size + 1) (.slice A8 j c8) (segs ⟨src, dst, app, ttl, ssrc, iv, seq⟩ l now j) := by rw [hZ]; exact (HYL.out.far zr 0 _).far zr 1 _
                            rw [show (Y.setCell ⟨w.heap.size + 1 + 1, 0, none⟩ (.slice A6 (N + 1) c6)).setCell ⟨w.heap.size + 1 + 1, 1, none⟩ (.slice A2 M c2) = Z from hZ.symm]
                            clear hZ
                            refine bodyPost_ret (res_tr3 rfl _ _ (w.heap.size + 1 + 1) (.slice A6 (N + 1) c6) (.slice A2 M c2) rfl hZR) rfl (HOK.out _ _ _ _ _ rfl hZB ?_ ?_ ?_)
                            · rw [HSO1.out]
                              refine ⟨vs ++ [.slice A5 j c5], by simp [HVL.out, HN.out], ?_, parts_snoc (pf := OutS.parts) (HVL.out.trans HN.out.symm) (fun i o u hi hu => ((HVP.out i o u hi hu).on hZB)) ?_⟩
                              · rw [flat2_append _ _ _ _ (HVL.out.trans HN.out.symm), flat2_one, show (os ++ [mOut ⟨src, dst, app, ttl, ssrc, iv, seq⟩ l now]).length = N + 1 by simp [HN.out]]
                                exact Sl.of_own hZO
                              · show PartsV _ _ _ (chunks l (cntP l))
                                rw [HC.out]
                                exact hZP.reads
                            · exact HU.out.on hZB
                            · rw [HSL1.out]
                              exact hZL.reads
                        · go_simp
                          first | (refine hK.out _ _ ?_ (fun hHeld => ?_)) | (go_wp2_with fail; refine hK.out _ _ ?_ (fun hHeld => ?_))
                          · (go_keep; try omega)
                          clear hK K
                          try simp only [Act.put, List.getElem_toArray, List.getElem_cons_succ, List.getElem_cons_zero, List.setIfInBounds_toArray, List.set_cons_zero, List.set_cons_succ]
                          refine wpAnyH_ready (rs := [2]) (by kernel_rfl) (by simp) ?_
                          refine AllReadyH.cons rfl (fun K hK => ?_) AllReadyH.nil
                          go_simp
                          first | (refine hK.out _ _ ?_ (fun hHeld => ?_)) | (go_wp2_with fail; refine hK.out _ _ ?_ (fun hHeld => ?_))
                          · (go_keep; try omega)
                          clear hK K
                          try simp only [Act.put, List.getElem_toArray, List.getElem_cons_succ, List.getElem_cons_zero, List.setIfInBounds_toArray, List.set_cons_zero, List.set_cons_succ]
                          refine wpAnyH_ready (rs := [3]) (by kernel_rfl) (by simp) ?_
                          refine AllReadyH.cons rfl (fun K hK => ?_) AllReadyH.nil
                          have HOWN := Lib.hid (show ((wr.drew.alloc (.cells #[] 75)).alloc (.cells #[.int .u16 (dst : Int), .int .u16 (src : Int), .bool app, .int .u32 (seq : Int), .int .u32 (iv : Int), .slice A5 j c5, .int .u32 0, .int .i64 (now + 20), .int .i64 1, .int .i64 ttl] 75)).ownsRow wr.heap.size 75 10 (.slice (some ⟨wr.heap.size, 0, none⟩) 0 0) 0 [] from World.ownsRow.alloc (own_nil wr.drew _ 10) _)
                          have HBW := Lib.hid (show Below wr.heap.size wr ((wr.drew.alloc (.cells #[] 75)).alloc (.cells #[.int .u16 (dst : Int), .int .u16 (src : Int), .bool app, .int .u32 (seq : Int), .int .u32 (iv : Int), .slice A5 j c5, .int .u32 0, .int .i64 (now + 20), .int .i64 1, .int .i64 ttl] 75)) from (((Below.refl wr.heap.size wr).drew).alloc (Nat.le_refl _) _).alloc (by simp) _)
                          refine step_sl _ elO rfl (.tmp 140) (.tmp 142) rfl rfl HOWN.out rfl (HSW.out _ HBW.out) ?_ ?_ ?_ ?_
                          · exact HONE.out
                          · omega
                          · exact HBW.out.size
                          intro v9 w9 hown9 hg9 hnil9 hat9
                          rw [Nat.zero_add, List.nil_append] at hown9
                          have hb10 : Below wr.heap.size wr w9 := below_app HBW.out HOWN.out hg9 (Nat.le_refl _) HBW.out.size
                          have HB10 := Lib.hid hb10
                          have H5 := Lib.hid (show Box w9 (wr.heap.size + 1) (outCs ⟨dst, src, app, seq, iv, [], 0, now + 20, 1, ttl⟩ (.slice A5 j c5)) from Box.grown (show Box ((wr.drew.alloc (.cells #[] 75)).alloc (.cells #[.int .u16 (dst : Int), .int .u16 (src : Int), .bool app, .int .u32 (seq : Int), .int .u32 (iv : Int), .slice A5 j c5, .int .u32 0, .int .i64 (now + 20), .int .i64 1, .int .i64 ttl] 75)) (wr.heap.size + 1) (outCs ⟨dst, src, app, seq, iv, [], 0, now + 20, 1, ttl⟩ (.slice A5 j c5)) from ⟨75, by rw [heap_al, if_pos (by simp)]; rfl⟩) hg9 (show (some (wr.heap.size + 1) : Option Nat) ≠ some wr.heap.size by simp))
                          have HX9 := Lib.hid (HX6.out.on hb10)
                          have g0 := HX9.out.cell (j := 0) rfl
                          have g1 := HX9.out.cell (j := 1) rfl
                          have g2 := HX9.out.cell (j := 2) rfl
                          have g3 := HX9.out.cell (j := 3) rfl
                          have g4 := HX9.out.cell (j := 4) rfl
                          have g5 := HX9.out.cell (j := 5) rfl
                          have g6 := HX9.out.cell (j := 6) rfl
                          have g7 := HX9.out.cell (j := 7) rfl
                          have g8 := HX9.out.cell (j := 8) rfl
                          have g9 := HX9.out.cell (j := 9) rfl
                          have y9 := HX9.out.lt
                          have k0 := ((J0.out.keep HB6.out J0.out.lt).on hb10).cell (j := 0) rfl
                          have kz := ((J0.out.keep HB6.out J0.out.lt).on hb10).lt
                          have kf := ((J0.out.keep HB6.out J0.out.lt).on hb10).free 0
                          dsimp only at g0 g1 g2 g3 g4 g6 g7 g8 g9
                          obtain ⟨A9, c9, rfl⟩ := own_form hown9
                          have HO9 := Lib.hid hown9
                          clear hown9 hg9 hnil9 hat9 hb10
                          refine hK.out _ _ ⟨g0, g1, g2, g3, g4, g5, g6, g7, g8, g9⟩ (fun hHeld => ?_)
                          clear hK K
                          simp only [Act.put, List.getElem_toArray, List.getElem_cons_succ, List.getElem_cons_zero, List.setIfInBounds_toArray, List.set_cons_zero, List.set_cons_succ]
                          refine wpAnyH_ready (rs := [6]) (by kernel_rfl) (by simp) ?_
                          refine AllReadyH.cons rfl (fun K hK => ?_) AllReadyH.nil
                          refine step_sl _ elO rfl (.tmp 143) (.tmp 145) rfl rfl HO9.out rfl (Sl.of_box H5.out 1 rfl (by simp [maxLen])) ?_ ?_ ?_ ?_
                          · exact outCs_one (mOut ⟨src, dst, app, ttl, ssrc, iv, seq⟩ l now) (v := .slice A5 j c5) rfl
                          · omega
                          · exact HB10.out.size
                          intro v8 w8 hown8 hg8 hnil8 hat8
                          have hb8 : Below wr.heap.size wr w8 := below_app HB10.out HO9.out hg8 (Nat.le_refl _) (HB10.out.size)
                          have HB8 := Lib.hid hb8
                          have HX8 := Lib.hid (HX6.out.on hb8)
                          have m0 := HX8.out.cell (j := 0) rfl
                          have m1 := HX8.out.cell (j := 1) rfl
                          have m2 := HX8.out.cell (j := 2) rfl
                          have m3 := HX8.out.cell (j := 3) rfl
                          have m4 := HX8.out.cell (j := 4) rfl
                          have m5 := HX8.out.cell (j := 5) rfl
                          have m6 := HX8.out.cell (j := 6) rfl
                          have m7 := HX8.out.cell (j := 7) rfl
                          have m8 := HX8.out.cell (j := 8) rfl
                          have m9 := HX8.out.cell (j := 9) rfl
                          dsimp only at m0 m1 m2 m3 m4 m6 m7 m8 m9
                          have y8 := HX8.out.lt
                          have t0 := ((J0.out.keep HB6.out J0.out.lt).on hb8).cell (j := 0) rfl
                          have tz := ((J0.out.keep HB6.out J0.out.lt).on hb8).lt
                          have tf := ((J0.out.keep HB6.out J0.out.lt).on hb8).free 0
                          obtain ⟨A6, c6, rfl⟩ := own_form hown8
                          have HO8 := Lib.hid hown8
                          clear hown8 hg8 hnil8 hat8 hb8
                          refine hK.out _ _ ⟨m0, m1, m2, m3, m4, m5, m6, m7, m8, m9⟩ (fun hHeld => ?_)
                          clear hK K
                          simp only [Act.put, List.getElem_toArray, List.getElem_cons_succ, List.getElem_cons_zero, List.setIfInBounds_toArray, List.set_cons_zero, List.set_cons_succ]
                          refine wpAnyH_take (i := 7) (v := ?_) rfl (by kernel_rfl) (by kernel_rfl) (by kernel_rfl) (fun _ _ _ h => h) (Or.inl ⟨by rfl, ?_⟩) (by assumption) ?_
                          rotate_left
                          · intro w hSw
                            (try dsimp only at hSw)
                            go_simp
                            first | done | with_reducible rfl
                          simp only [Act.put, List.getElem_toArray, List.getElem_cons_succ, List.getElem_cons_zero, List.setIfInBounds_toArray, List.set_cons_zero, List.set_cons_succ]
                          refine wpAnyH_ready (rs := [8]) (by kernel_rfl) (by simp) ?_
                          refine AllReadyH.cons rfl (fun K hK => ?_) AllReadyH.nil
                          go_simp
                          first | (refine hK.out _ _ ?_ (fun hHeld => ?_)) | (go_wp2_with fail; refine hK.out _ _ ?_ (fun hHeld => ?_))
                          · (go_keep; try omega)
                          clear hK K
                          try simp only [Act.put, List.getElem_toArray, List.getElem_cons_succ, List.getElem_cons_zero, List.setIfInBounds_toArray, List.set_cons_zero, List.set_cons_succ]
                          refine wpAnyH_done (by kernel_rfl) ?_ _
                          refine NoPanic.normal ?_
                          obtain ⟨Y, hY⟩ : ∃ Y, Y = w8.setCell ⟨w.heap.size, 0, none⟩ (.slice A6 (N + 1) c6) := ⟨_, rfl⟩
                          have hBW : Below w.heap.size w w8 := (HB1.out.trans (HB6.out.mono HB1.out.size)).trans (HB8.out.mono (Nat.le_trans HB1.out.size HB6.out.size))
                          have h18 : Below w1.heap.size w1 w8 := HB6.out.trans (HB8.out.mono HB6.out.size)
                          have HYB := Lib.hid (show Below w.heap.size w Y by rw [hY]; exact hBW.setCell (p := ⟨w.heap.size, 0, none⟩) (Nat.le_refl _) _)
                          have hYJ : Box Y w.heap.size [.slice A6 (N + 1) c6, .slice A2 M c2] := by rw [hY]; exact (J0.out.on h18).set 0 _
                          have hY2 : Box Y (w.heap.size + 1 + 1) [.slice none 0 0, .slice none 0 0] := by rw [hY]; exact (J2.out.on h18).far (show w.heap.size + 1 + 1 ≠ w.heap.size by omega) _
                          have HYO := Lib.hid (show Y.ownsRow wr.heap.size 75 10 (.slice A6 (N + 1) c6) (N + 1) (flat2 outCs os vs ++ outCs (mOut ⟨src, dst, app, ttl, ssrc, iv, seq⟩ l now) (.slice A5 j c5)) by rw [hY]; exact own_far HO8.out (by have := JZ.out; omega) 0 _)
                          have HYP := Lib.hid (show OwnParts Y (w1.heap.size + 1) (.slice A5 j c5) (chunks l j) by rw [hY]; exact (HP6.out.on HB8.out).far (by have := JZ.out; omega) 0 _)
                          have HYL := Lib.hid (show OwnLows Y (w1.heap.size + 1) (.slice A8 j c8) (segs ⟨src, dst, app, ttl, ssrc, iv, seq⟩ l now j) by rw [hY]; exact (HL6.out.on HB8.out).far (by have := JZ.out; omega) 0 _)
                          rw [← hY]
                          clear hY hHeld d0 d1 d2 d3 d4 d5 d6 d7 d8 d9 m0 m1 m2 m3 m4 m5 m6 m7 m8 m9 g0 g1 g2 g3 g4 g5 g6 g7 g8 g9 y5 y8 y9 t0 tz tf k0 kz kf b0 b1 y0
                          have p0 := hYJ.cell (j := 0) rfl
                          have p1 := hYJ.cell (j := 1) rfl
                          have r0 := hY2.cell (j := 0) rfl
                          have r1 := hY2.cell (j := 1) rfl
                          have f0 := hY2.free 0
                          have f1 := hY2.free 1
                          have z0 := hYJ.lt
                          have z2 := hY2.lt
                          have HY2 := Lib.hid hY2
                          clear hYJ hY2 h18 hBW
                          go_wp2_with fail
                          obtain ⟨Z, hZ⟩ : ∃ Z, Z = Y.setCells (w.heap.size + 1 + 1) 0 [.slice A6 (N + 1) c6, .slice A2 M c2] := ⟨_, rfl⟩
                          have zr : w.heap.size + 1 + 1 < w1.heap.size + 1 := by have := JZ.out; omega
                          have zw : w.heap.size + 1 + 1 < wr.heap.size := by have := JZ.out; have := HB6.out.size; omega
                          have hZB : Below w.heap.size w Z := by rw [hZ]; exact below_puts (b := w.heap.size + 1 + 1) (by omega) 0 _ HYB.out
                          have hZR : Box Z (w.heap.size + 1 + 1) [.slice A6 (N + 1) c6, .slice A2 M c2] := by rw [hZ]; exact HY2.out.put _ rfl
                          have hZO : Z.ownsRow wr.heap.size 75 10 (.slice A6 (N + 1) c6) (N + 1) (flat2 outCs os vs ++ outCs (mOut ⟨src, dst, app, ttl, ssrc, iv, seq⟩ l now) (.slice A5 j c5)) := by rw [hZ]; exact own_far (own_far HYO.out zw 0 _) zw 1 _
                          have hZP : OwnParts Z (w1.heap.size + 1) (.slice A5 j c5) (chunks l j) := by rw [hZ]; exact (HYP.out.far zr 0 _).far zr 1 _
                          have hZL : OwnLows Z (w1.heap.size + 1) (.slice A8 j c8) (segs ⟨src, dst, app, ttl, ssrc, iv, seq⟩ l now j) := by rw [hZ]; exact (HYL.out.far zr 0 _).far zr 1 _
                          rw [show (Y.setCell ⟨w.heap.size + 1 + 1, 0, none⟩ (.slice A6 (N + 1) c6)).setCell ⟨w.heap.size + 1 + 1, 1, none⟩ (.slice A2 M c2) = Z from hZ.symm]
                          clear hZ
                          refine bodyPost_ret (res_tr3 rfl _ _ (w.heap.size + 1 + 1) (.slice A6 (N + 1) c6) (.slice A2 M c2) rfl hZR) rfl (HOK.out _ _ _ _ _ rfl hZB ?_ ?_ ?_)
                          · rw [HSO1.out]
                            refine ⟨vs ++ [.slice A5 j c5], by simp [HVL.out, HN.out], ?_, parts_snoc (pf := OutS.parts) (HVL.out.trans HN.out.symm) (fun i o u hi hu => ((HVP.out i o u hi hu).on hZB)) ?_⟩
                            · rw [flat2_append _ _ _ _ (HVL.out.trans HN.out.symm), flat2_one, show (os ++ [mOut ⟨src, dst, app, ttl, ssrc, iv, seq⟩ l now]).length = N + 1 by simp [HN.out]]
                              exact Sl.of_own hZO
                            · show PartsV _ _ _ (chunks l (cntP l))
                              rw [HC.out]
                              exact hZP.reads
                          · exact HU.out.on hZB
                          · rw [HSL1.out]
                            exact hZL.reads
                      · go_simp
                        first | (refine hK.out _ _ ?_ (fun hHeld => ?_)) | (go_wp2_with fail; refine hK.out _ _ ?_ (fun hHeld => ?_))
                        · (go_keep; try omega)
                        clear hK K
                        try simp only [Act.put, List.getElem_toArray, List.getElem_cons_succ, List.getElem_cons_zero, List.setIfInBounds_toArray, List.set_cons_zero, List.set_cons_succ]
                        refine wpAnyH_ready (rs := [0, 5]) (by kernel_rfl) (by simp) ?_
                        refine AllReadyH.cons rfl (fun K hK => ?_) (AllReadyH.cons rfl (fun K hK => ?_) AllReadyH.nil)
                        · go_simp
                          first | (refine hK.out _ _ ?_ (fun hHeld => ?_)) | (go_wp2_with fail; refine hK.out _ _ ?_ (fun hHeld => ?_))
                          · (go_keep; try omega)
                          clear hK K
                          try simp only [Act.put, List.getElem_toArray, List.getElem_cons_succ, List.getElem_cons_zero, List.setIfInBounds_toArray, List.set_cons_zero, List.set_cons_succ]
                          refine wpAnyH_ready (rs := [3, 5]) (by kernel_rfl) (by simp) ?_
                          refine AllReadyH.cons rfl (fun K hK => ?_) (AllReadyH.cons rfl (fun K hK => ?_) AllReadyH.nil)
                          · have HOWN := Lib.hid (show (wr.drew.alloc (.cells #[] 75)).ownsRow wr.heap.size 75 10 (.slice (some ⟨wr.heap.size, 0, none⟩) 0 0) 0 [] from own_nil wr.drew _ 10)
                            have HBW := Lib.hid (show Below wr.heap.size wr (wr.drew.alloc (.cells #[] 75)) from ((Below.refl wr.heap.size wr).drew).alloc (Nat.le_refl _) _)
                            refine step_sl _ elO rfl (.tmp 140) (.tmp 142) rfl rfl HOWN.out rfl (HSW.out _ HBW.out) ?_ ?_ ?_ ?_
                            · exact HONE.out
                            · omega
                            · exact HBW.out.size
                            intro v9 w9 hown9 hg9 hnil9 hat9
                            rw [Nat.zero_add, List.nil_append] at hown9
                            have hb10 : Below wr.heap.size wr w9 := below_app HBW.out HOWN.out hg9 (Nat.le_refl _) HBW.out.size
                            have HB10 := Lib.hid hb10
                            have HX9 := Lib.hid (HX6.out.on hb10)
                            have g0 := HX9.out.cell (j := 0) rfl
                            have g1 := HX9.out.cell (j := 1) rfl
                            have g2 := HX9.out.cell (j := 2) rfl
                            have g3 := HX9.out.cell (j := 3) rfl
                            have g4 := HX9.out.cell (j := 4) rfl
                            have g5 := HX9.out.cell (j := 5) rfl
                            have g6 := HX9.out.cell (j := 6) rfl
                            have g7 := HX9.out.cell (j := 7) rfl
                            have g8 := HX9.out.cell (j := 8) rfl
                            have g9 := HX9.out.cell (j := 9) rfl
                            have y9 := HX9.out.lt
                            have k0 := ((J0.out.keep HB6.out J0.out.lt).on hb10).cell (j := 0) rfl
                            have kz := ((J0.out.keep HB6.out J0.out.lt).on hb10).lt
                            have kf := ((J0.out.keep HB6.out J0.out.lt).on hb10).free 0
                            dsimp only at g0 g1 g2 g3 g4 g6 g7 g8 g9
                            obtain ⟨A9, c9, rfl⟩ := own_form hown9
                            have HO9 := Lib.hid hown9
                            clear hown9 hg9 hnil9 hat9 hb10
                            refine hK.out _ _ ⟨g0, g1, g2, g3, g4, g5, g6, g7, g8, g9⟩ (fun hHeld => ?_)
                            clear hK K
                            simp only [Act.put, List.getElem_toArray, List.getElem_cons_succ, List.getElem_cons_zero, List.setIfInBounds_toArray, List.set_cons_zero, List.set_cons_succ]
                            refine wpAnyH_ready (rs := [5]) (by kernel_rfl) (by simp) ?_
                            refine AllReadyH.cons rfl (fun K hK => ?_) AllReadyH.nil
                            go_simp
                            first | (refine hK.out _ _ ?_ (fun hHeld => ?_)) | (go_wp2_with fail; refine hK.out _ _ ?_ (fun hHeld => ?_))
                            · (go_keep; try omega)
                            clear hK K
                            try simp only [Act.put, List.getElem_toArray, List.getElem_cons_succ, List.getElem_cons_zero, List.setIfInBounds_toArray, List.set_cons_zero, List.set_cons_succ]
                            refine wpAnyH_ready (rs := [6]) (by kernel_rfl) (by simp) ?_
                            refine AllReadyH.cons rfl (fun K hK => ?_) AllReadyH.nil
                            refine step_sl _ elO rfl (.tmp 143) (.tmp 145) rfl rfl (HO9.out.alloc _) rfl (Sl.lit _ _ _ 1 rfl (by simp [maxLen])) ?_ ?_ ?_ ?_
                            · exact outCs_one (mOut ⟨src, dst, app, ttl, ssrc, iv, seq⟩ l now) (v := .slice A5 j c5) rfl
                            · omega
                            · exact Nat.le_trans HB10.out.size (by simp)
                            intro v8 w8 hown8 hg8 hnil8 hat8
                            have hb8 : Below wr.heap.size wr w8 := below_app (HB10.out.alloc HB10.out.size _) (HO9.out.alloc _) hg8 (Nat.le_refl _) (Nat.le_trans HB10.out.size (by simp))
                            have HB8 := Lib.hid hb8
                            have HX8 := Lib.hid (HX6.out.on hb8)
                            have m0 := HX8.out.cell (j := 0) rfl
                            have m1 := HX8.out.cell (j := 1) rfl
                            have m2 := HX8.out.cell (j := 2) rfl
                            have m3 := HX8.out.cell (j := 3) rfl
                            have m4 := HX8.out.cell (j := 4) rfl
                            have m5 := HX8.out.cell (j := 5) rfl
                            have m6 := HX8.out.cell (j := 6) rfl
                            have m7 := HX8.out.cell (j := 7) rfl
                            have m8 := HX8.out.cell (j := 8) rfl
                            have m9 := HX8.out.cell (j := 9) rfl
                            dsimp only at m0 m1 m2 m3 m4 m6 m7 m8 m9
                            have y8 := HX8.out.lt
                            have t0 := ((J0.out.keep HB6.out J0.out.lt).on hb8).cell (j := 0) rfl
                            have tz := ((J0.out.keep HB6.out J0.out.lt).on hb8).lt
                            have tf := ((J0.out.keep HB6.out J0.out.lt).on hb8).free 0
                            obtain ⟨A6, c6, rfl⟩ := own_form hown8
                            have HO8 := Lib.hid hown8
                            clear hown8 hg8 hnil8 hat8 hb8
                            refine hK.out _ _ ⟨m0, m1, m2, m3, m4, m5, m6, m7, m8, m9⟩ (fun hHeld => ?_)
                            clear hK K
                            simp only [Act.put, List.getElem_toArray, List.getElem_cons_succ, List.getElem_cons_zero, List.setIfInBounds_toArray, List.set_cons_zero, List.set_cons_succ]
                            refine wpAnyH_take (i := 7) (v := ?_) rfl (by kernel_rfl) (by kernel_rfl) (by kernel_rfl) (fun _ _ _ h => h) (Or.inl ⟨by rfl, ?_⟩) (by assumption) ?_
                            rotate_left
                            · intro w hSw
                              (try dsimp only at hSw)
                              go_simp
                              first | done | with_reducible rfl
                            simp only [Act.put, List.getElem_toArray, List.getElem_cons_succ, List.getElem_cons_zero, List.setIfInBounds_toArray, List.set_cons_zero, List.set_cons_succ]
                            refine wpAnyH_ready (rs := [8]) (by kernel_rfl) (by simp) ?_
                            refine AllReadyH.cons rfl (fun K hK => ?_) AllReadyH.nil
                            go_simp
                            first | (refine hK.out _ _ ?_ (fun hHeld => ?_)) | (go_wp2_with fail; refine hK.out _ _ ?_ (fun hHeld => ?_))
                            · (go_keep; try omega)
                            clear hK K
                            try simp only [Act.put, List.getElem_toArray, List.getElem_cons_succ, List.getElem_cons_zero, List.setIfInBounds_toArray, List.set_cons_zero, List.set_cons_succ]
                            refine wpAnyH_done (by kernel_rfl) ?_ _
                            refine NoPanic.normal ?_
                            obtain ⟨Y, hY⟩ : ∃ Y, Y = w8.setCell ⟨w.heap.size, 0, none⟩ (.slice A6 (N + 1) c6) := ⟨_, rfl⟩
                            have hBW : Below w.heap.size w w8 := (HB1.out.trans (HB6.out.mono HB1.out.size)).trans (HB8.out.mono (Nat.le_trans HB1.out.size HB6.out.size))
                            have h18 : Below w1.heap.size w1 w8 := HB6.out.trans (HB8.out.mono HB6.out.size)
                            have HYB := Lib.hid (show Below w.heap.size w Y by rw [hY]; exact hBW.setCell (p := ⟨w.heap.size, 0, none⟩) (Nat.le_refl _) _)
                            have hYJ : Box Y w.heap.size [.slice A6 (N + 1) c6, .slice A2 M c2] := by rw [hY]; exact (J0.out.on h18).set 0 _
                            have hY2 : Box Y (w.heap.size + 1 + 1) [.slice none 0 0, .slice none 0 0] := by rw [hY]; exact (J2.out.on h18).far (show w.heap.size + 1 + 1 ≠ w.heap.size by omega) _
                            have HYO := Lib.hid (show Y.ownsRow wr.heap.size 75 10 (.slice A6 (N + 1) c6) (N + 1) (flat2 outCs os vs ++ outCs (mOut ⟨src, dst, app, ttl, ssrc, iv, seq⟩ l now) (.slice A5 j c5)) by rw [hY]; exact own_far HO8.out (by have := JZ.out; omega) 0 _)
                            have HYP := Lib.hid (show OwnParts Y (w1.heap.size + 1) (.slice A5 j c5) (chunks l j) by rw [hY]; exact (HP6.out.on HB8.out).far (by have := JZ.out; omega) 0 _)
                            have HYL := Lib.hid (show OwnLows Y (w1.heap.size + 1) (.slice A8 j c8) (segs ⟨src, dst, app, ttl, ssrc, iv, seq⟩ l now j) by rw [hY]; exact (HL6.out.on HB8.out).far (by have := JZ.out; omega) 0 _)
                            rw [← hY]
                            clear hY hHeld d0 d1 d2 d3 d4 d5 d6 d7 d8 d9 m0 m1 m2 m3 m4 m5 m6 m7 m8 m9 g0 g1 g2 g3 g4 g5 g6 g7 g8 g9 y5 y8 y9 t0 tz tf k0 kz kf b0 b1 y0
                            have p0 := hYJ.cell (j := 0) rfl
                            have p1 := hYJ.cell (j := 1) rfl
                            have r0 := hY2.cell (j := 0) rfl
                            have r1 := hY2.cell (j := 1) rfl
                            have f0 := hY2.free 0
                            have f1 := hY2.free 1
                            have z0 := hYJ.lt
                            have z2 := hY2.lt
                            have HY2 := Lib.hid hY2
                            clear hYJ hY2 h18 hBW
                            go_wp2_with fail
                            obtain ⟨Z, hZ⟩ : ∃ Z, Z = Y.setCells (w.heap.size + 1 + 1) 0 [.slice A6 (N + 1) c6, .slice A2 M c2] := ⟨_, rfl⟩
                            have zr : w.heap.size + 1 + 1 < w1.heap.size + 1 := by have := JZ.out; omega
                            have zw : w.heap.size + 1 + 1 < wr.heap.size := by have := JZ.out; have := HB6.out.size; omega
                            have hZB : Below w.heap.size w Z := by rw [hZ]; exact below_puts (b := w.heap.size + 1 + 1) (by omega) 0 _ HYB.out
                            have hZR : Box Z (w.heap.size + 1 + 1) [.slice A6 (N + 1) c6, .slice A2 M c2] := by rw [hZ]; exact HY2.out.put _ rfl
                            have hZO : Z.ownsRow wr.heap.size 75 10 (.slice A6 (N + 1) c6) (N + 1) (flat2 outCs os vs ++ outCs (mOut ⟨src, dst, app, ttl, ssrc, iv, seq⟩ l now) (.slice A5 j c5)) := by rw [hZ]; exact own_far (own_far HYO.out zw 0 _) zw 1 _
                            have hZP : OwnParts Z (w1.heap.size + 1) (.slice A5 j c5) (chunks l j) := by rw [hZ]; exact (HYP.out.far zr 0 _).far zr 1 _
                            have hZL : OwnLows Z (w1.heap.size + 1) (.slice A8 j c8) (segs ⟨src, dst, app, ttl, ssrc, iv, seq⟩ l now j) := by rw [hZ]; exact (HYL.out.far zr 0 _).far zr 1 _
                            rw [show (Y.setCell ⟨w.heap.size + 1 + 1, 0, none⟩ (.slice A6 (N + 1) c6)).setCell ⟨w.heap.size + 1 + 1, 1, none⟩ (.slice A2 M c2) = Z from hZ.symm]
                            clear hZ
                            refine bodyPost_ret (res_tr3 rfl _ _ (w.heap.size + 1 + 1) (.slice A6 (N + 1) c6) (.slice A2 M c2) rfl hZR) rfl (HOK.out _ _ _ _ _ rfl hZB ?_ ?_ ?_)
                            · rw [HSO1.out]
                              refine ⟨vs ++ [.slice A5 j c5], by simp [HVL.out, HN.out], ?_, parts_snoc (pf := OutS.parts) (HVL.out.trans HN.out.symm) (fun i o u hi hu => ((HVP.out i o u hi hu).on hZB)) ?_⟩
                              · rw [flat2_append _ _ _ _ (HVL.out.trans HN.out.symm), flat2_one, show (os ++ [mOut ⟨src, dst, app, ttl, ssrc, iv, seq⟩ l now]).length = N + 1 by simp [HN.out]]
                                exact Sl.of_own hZO
                              · show PartsV _ _ _ (chunks l (cntP l))
                                rw [HC.out]
                                exact hZP.reads
                            · exact HU.out.on hZB
                            · rw [HSL1.out]
                              exact hZL.reads
                          · go_simp
                            first | (refine hK.out _ _ ?_ (fun hHeld => ?_)) | (go_wp2_with fail; refine hK.out _ _ ?_ (fun hHeld => ?_))
                            · (go_keep; try omega)
                            clear hK K
                            try simp only [Act.put, List.getElem_toArray, List.getElem_cons_succ, List.getElem_cons_zero, List.setIfInBounds_toArray, List.set_cons_zero, List.set_cons_succ]
                            refine wpAnyH_ready (rs := [3]) (by kernel_rfl) (by simp) ?_
                            refine AllReadyH.cons rfl (fun K hK => ?_) AllReadyH.nil
                            have HOWN := Lib.hid (show ((wr.drew.alloc (.cells #[] 75)).alloc (.cells #[.int .u16 (dst : Int), .int .u16 (src : Int), .bool app, .int .u32 (seq : Int), .int .u32 (iv : Int), .slice A5 j c5, .int .u32 0, .int .i64 (now + 20), .int .i64 1, .int .i64 ttl] 75)).ownsRow wr.heap.size 75 10 (.slice (some ⟨wr.heap.size, 0, none⟩) 0 0) 0 [] from World.ownsRow.alloc (own_nil wr.drew _ 10) _)
                            have HBW := Lib.hid (show Below wr.heap.size wr ((wr.drew.alloc (.cells #[] 75)).alloc (.cells #[.int .u16 (dst : Int), .int .u16 (src : Int), .bool app, .int .u32 (seq : Int), .int .u32 (iv : Int), .slice A5 j c5, .int .u32 0, .int .i64 (now + 20), .int .i64 1, .int .i64 ttl] 75)) from (((Below.refl wr.heap.size wr).drew).alloc (Nat.le_refl _) _).alloc (by simp) _)
                            refine step_sl _ elO rfl (.tmp 140) (.tmp 142) rfl rfl HOWN.out rfl (HSW.out _ HBW.out) ?_ ?_ ?_ ?_
                            · exact HONE.out
                            · omega
                            · exact HBW.out.size
                            intro v9 w9 hown9 hg9 hnil9 hat9
                            rw [Nat.zero_add, List.nil_append] at hown9
                            have hb10 : Below wr.heap.size wr w9 := below_app HBW.out HOWN.out hg9 (Nat.le_refl _) HBW.out.size
                            have HB10 := Lib.hid hb10
                            have H5 := Lib.hid (show Box w9 (wr.heap.size + 1) (outCs ⟨dst, src, app, seq, iv, [], 0, now + 20, 1, ttl⟩ (.slice A5 j c5)) from Box.grown (show Box ((wr.drew.alloc (.cells #[] 75)).alloc (.cells #[.int .u16 (dst : Int), .int .u16 (src : Int), .bool app, .int .u32 (seq : Int), .int .u32 (iv : Int), .slice A5 j c5, .int .u32 0, .int .i64 (now + 20), .int .i64 1, .int .i64 ttl] 75)) (wr.heap.size + 1) (outCs ⟨dst, src, app, seq, iv, [], 0, now + 20, 1, ttl⟩ (.slice A5 j c5)) from ⟨75, by rw [heap_al, if_pos (by simp)]; rfl⟩) hg9 (show (some (wr.heap.size + 1) : Option Nat) ≠ some wr.heap.size by simp))
                            have HX9 := Lib.hid (HX6.out.on hb10)
                            have g0 := HX9.out.cell (j := 0) rfl
                            have g1 := HX9.out.cell (j := 1) rfl
                            have g2 := HX9.out.cell (j := 2) rfl
                            have g3 := HX9.out.cell (j := 3) rfl
                            have g4 := HX9.out.cell (j := 4) rfl
                            have g5 := HX9.out.cell (j := 5) rfl
                            have g6 := HX9.out.cell (j := 6) rfl
                            have g7 := HX9.out.cell (j := 7) rfl
                            have g8 := HX9.out.cell (j := 8) rfl
                            have g9 := HX9.out.cell (j := 9) rfl
                            have y9 := HX9.out.lt
                            have k0 := ((J0.out.keep HB6.out J0.out.lt).on hb10).cell (j := 0) rfl
                            have kz := ((J0.out.keep HB6.out J0.out.lt).on hb10).lt
                            have kf := ((J0.out.keep HB6.out J0.out.lt).on hb10).free 0
                            dsimp only at g0 g1 g2 g3 g4 g6 g7 g8 g9
                            obtain ⟨A9, c9, rfl⟩ := own_form hown9
                            have HO9 := Lib.hid hown9
                            clear hown9 hg9 hnil9 hat9 hb10
                            refine hK.out _ _ ⟨g0, g1, g2, g3, g4, g5, g6, g7, g8, g9⟩ (fun hHeld => ?_)
                            clear hK K
                            simp only [Act.put, List.getElem_toArray, List.getElem_cons_succ, List.getElem_cons_zero, List.setIfInBounds_toArray, List.set_cons_zero, List.set_cons_succ]
                            refine wpAnyH_ready (rs := [6]) (by kernel_rfl) (by simp) ?_
                            refine AllReadyH.cons rfl (fun K hK => ?_) AllReadyH.nil
                            refine step_sl _ elO rfl (.tmp 143) (.tmp 145) rfl rfl HO9.out rfl (Sl.of_box H5.out 1 rfl (by simp [maxLen])) ?_ ?_ ?_ ?_
                            · exact outCs_one (mOut ⟨src, dst, app, ttl, ssrc, iv, seq⟩ l now) (v := .slice A5 j c5) rfl
                            · omega
                            · exact HB10.out.size
                            intro v8 w8 hown8 hg8 hnil8 hat8
                            have hb8 : Below wr.heap.size wr w8 := below_app HB10.out HO9.out hg8 (Nat.le_refl _) (HB10.out.size)
                            have HB8 := Lib.hid hb8
                            have HX8 := Lib.hid (HX6.out.on hb8)
                            have m0 := HX8.out.cell (j := 0) rfl
                            have m1 := HX8.out.cell (j := 1) rfl
                            have m2 := HX8.out.cell (j := 2) rfl
                            have m3 := HX8.out.cell (j := 3) rfl
                            have m4 := HX8.out.cell (j := 4) rfl
                            have m5 := HX8.out.cell (j := 5) rfl
                            have m6 := HX8.out.cell (j := 6) rfl
                            have m7 := HX8.out.cell (j := 7) rfl
                            have m8 := HX8.out.cell (j := 8) rfl
                            have m9 := HX8.out.cell (j := 9) rfl
                            dsimp only at m0 m1 m2 m3 m4 m6 m7 m8 m9
                            have y8 := HX8.out.lt
                            have t0 := ((J0.out.keep HB6.out J0.out.lt).on hb8).cell (j := 0) rfl
                            have tz := ((J0.out.keep HB6.out J0.out.lt).on hb8).lt
                            have tf := ((J0.out.keep HB6.out J0.out.lt).on hb8).free 0
                            obtain ⟨A6, c6, rfl⟩ := own_form hown8
                            have HO8 := Lib.hid hown8
                            clear hown8 hg8 hnil8 hat8 hb8
                            refine hK.out _ _ ⟨m0, m1, m2, m3, m4, m5, m6, m7, m8, m9⟩ (fun hHeld => ?_)
                            clear hK K
                            simp only [Act.put, List.getElem_toArray, List.getElem_cons_succ, List.getElem_cons_zero, List.setIfInBounds_toArray, List.set_cons_zero, List.set_cons_succ]
                            refine wpAnyH_take (i := 7) (v := ?_) rfl (by kernel_rfl) (by kernel_rfl) (by kernel_rfl) (fun _ _ _ h => h) (Or.inl ⟨by rfl, ?_⟩) (by assumption) ?_
                            rotate_left
                            · intro w hSw
                              (try dsimp only at hSw)
                              go_simp
                              first | done | with_reducible rfl
                            simp only [Act.put, List.getElem_toArray, List.getElem_cons_succ, List.getElem_cons_zero, List.setIfInBounds_toArray, List.set_cons_zero, List.set_cons_succ]
                            refine wpAnyH_ready (rs := [8]) (by kernel_rfl) (by simp) ?_
                            refine AllReadyH.cons rfl (fun K hK => ?_) AllReadyH.nil
                            go_simp
                            first | (refine hK.out _ _ ?_ (fun hHeld => ?_)) | (go_wp2_with fail; refine hK.out _ _ ?_ (fun hHeld => ?_))
                            · (go_keep; try omega)
                            clear hK K
                            try simp only [Act.put, List.getElem_toArray, List.getElem_cons_succ, List.getElem_cons_zero, List.setIfInBounds_toArray, List.set_cons_zero, List.set_cons_succ]
                            refine wpAnyH_done (by kernel_rfl) ?_ _
                            refine NoPanic.normal ?_
                            obtain ⟨Y, hY⟩ : ∃ Y, Y = w8.setCell ⟨w.heap.size, 0, none⟩ (.slice A6 (N + 1) c6) := ⟨_, rfl⟩
                            have hBW : Below w.heap.size w w8 := (HB1.out.trans (HB6.out.mono HB1.out.size)).trans (HB8.out.mono (Nat.le_trans HB1.out.size HB6.out.size))
                            have h18 : Below w1.heap.size w1 w8 := HB6.out.trans (HB8.out.mono HB6.out.size)
                            have HYB := Lib.hid (show Below w.heap.size w Y by rw [hY]; exact hBW.setCell (p := ⟨w.heap.size, 0, none⟩) (Nat.le_refl _) _)
                            have hYJ : Box Y w.heap.size [.slice A6 (N + 1) c6, .slice A2 M c2] := by rw [hY]; exact (J0.out.on h18).set 0 _
                            have hY2 : Box Y (w.heap.size + 1 + 1) [.slice none 0 0, .slice none 0 0] := by rw [hY]; exact (J2.out.on h18).far (show w.heap.size + 1 + 1 ≠ w.heap.size by omega) _
                            have HYO := Lib.hid (show Y.ownsRow wr.heap.size 75 10 (.slice A6 (N + 1) c6) (N + 1) (flat2 outCs os vs ++ outCs (mOut ⟨src, dst, app, ttl, ssrc, iv, seq⟩ l now) (.slice A5 j c5)) by rw [hY]; exact own_far HO8.out (by have := JZ.out; omega) 0 _)
                            have HYP := Lib.hid (show OwnParts Y (w1.heap.size + 1) (.slice A5 j c5) (chunks l j) by rw [hY]; exact (HP6.out.on HB8.out).far (by have := JZ.out; omega) 0 _)
                            have HYL := Lib.hid (show OwnLows Y (w1.heap.size + 1) (.slice A8 j c8) (segs ⟨src, dst, app, ttl, ssrc, iv, seq⟩ l now j) by rw [hY]; exact (HL6.out.on HB8.out).far (by have := JZ.out; omega) 0 _)
                            rw [← hY]
                            clear hY hHeld d0 d1 d2 d3 d4 d5 d6 d7 d8 d9 m0 m1 m2 m3 m4 m5 m6 m7 m8 m9 g0 g1 g2 g3 g4 g5 g6 g7 g8 g9 y5 y8 y9 t0 tz tf k0 kz kf b0 b1 y0
                            have p0 := hYJ.cell (j := 0) rfl
                            have p1 := hYJ.cell (j := 1) rfl
                            have r0 := hY2.cell (j := 0) rfl
                            have r1 := hY2.cell (j := 1) rfl
                            have f0 := hY2.free 0
                            have f1 := hY2.free 1
                            have z0 := hYJ.lt
                            have z2 := hY2.lt
                            have HY2 := Lib.hid hY2
                            clear hYJ hY2 h18 hBW
                            go_wp2_with fail
                            obtain ⟨Z, hZ⟩ : ∃ Z, Z = Y.setCells (w.heap.size + 1 + 1) 0 [.slice A6 (N + 1) c6, .slice A2 M c2] := ⟨_, rfl⟩
                            have zr : w.heap.size + 1 + 1 < w1.heap.size + 1 := by have := JZ.out; omega
                            have zw : w.heap.size + 1 + 1 < wr.heap.size := by have := JZ.out; have := HB6.out.size; omega
                            have hZB : Below w.heap.size w Z := by rw [hZ]; exact below_puts (b := w.heap.size + 1 + 1) (by omega) 0 _ HYB.out
                            have hZR : Box Z (w.heap.size + 1 + 1) [.slice A6 (N + 1) c6, .slice A2 M c2] := by rw [hZ]; exact HY2.out.put _ rfl
                            have hZO : Z.ownsRow wr.heap.size 75 10 (.slice A6 (N + 1) c6) (N + 1) (flat2 outCs os vs ++ outCs (mOut ⟨src, dst, app, ttl, ssrc, iv, seq⟩ l now) (.slice A5 j c5)) := by rw [hZ]; exact own_far (own_far HYO.out zw 0 _) zw 1 _
                            have hZP : OwnParts Z (w1.heap.size + 1) (.slice A5 j c5) (chunks l j) := by rw [hZ]; exact (HYP.out.far zr 0 _).far zr 1 _
                            have hZL : OwnLows Z (w1.heap.size + 1) (.slice A8 j c8) (segs ⟨src, dst, app, ttl, ssrc, iv, seq⟩ l now j) := by rw [hZ]; exact (HYL.out.far zr 0 _).far zr 1 _
                            rw [show (Y.setCell ⟨w.heap.size + 1 + 1, 0, none⟩ (.slice A6 (N + 1) c6)).setCell ⟨w.heap.size + 1 + 1, 1, none⟩ (.slice A2 M c2) = Z from hZ.symm]
                            clear hZ
                            refine bodyPost_ret (res_tr3 rfl _ _ (w.heap.size + 1 + 1) (.slice A6 (N + 1) c6) (.slice A2 M c2) rfl hZR) rfl (HOK.out _ _ _ _ _ rfl hZB ?_ ?_ ?_)
                            · rw [HSO1.out]
                              refine ⟨vs ++ [.slice A5 j c5], by simp [HVL.out, HN.out], ?_, parts_snoc (pf := OutS.parts) (HVL.out.trans HN.out.symm) (fun i o u hi hu => ((HVP.out i o u hi hu).on hZB)) ?_⟩
                              · rw [flat2_append _ _ _ _ (HVL.out.trans HN.out.symm), flat2_one, show (os ++ [mOut ⟨src, dst, app, ttl, ssrc, iv, seq⟩ l now]).length = N + 1 by simp [HN.out]]
                                exact Sl.of_own hZO
                              · show PartsV _ _ _ (chunks l (cntP l))
                                rw [HC.out]
                                exact hZP.reads
                            · exact HU.out.on hZB
                            · rw [HSL1.out]
                              exact hZL.reads
                        · go_simp
                          first | (refine hK.out _ _ ?_ (fun hHeld => ?_)) | (go_wp2_with fail; refine hK.out _ _ ?_ (fun hHeld => ?_))
                          · (go_keep; try omega)
                          clear hK K
                          try simp only [Act.put, List.getElem_toArray, List.getElem_cons_succ, List.getElem_cons_zero, List.setIfInBounds_toArray, List.set_cons_zero, List.set_cons_succ]
                          refine wpAnyH_ready (rs := [0]) (by kernel_rfl) (by simp) ?_
                          refine AllReadyH.cons rfl (fun K hK => ?_) AllReadyH.nil
                          go_simp
                          first | (refine hK.out _ _ ?_ (fun hHeld => ?_)) | (go_wp2_with fail; refine hK.out _ _ ?_ (fun hHeld => ?_))
                          · (go_keep; try omega)
                          clear hK K
                          try simp only [Act.put, List.getElem_toArray, List.getElem_cons_succ, List.getElem_cons_zero, List.setIfInBounds_toArray, List.set_cons_zero, List.set_cons_succ]
                          refine wpAnyH_ready (rs := [3]) (by kernel_rfl) (by simp) ?_
                          refine AllReadyH.cons rfl (fun K hK => ?_) AllReadyH.nil
                          have HOWN := Lib.hid (show ((wr.drew.alloc (.cells #[.int .u16 (dst : Int), .int .u16 (src : Int), .bool app, .int .u32 (seq : Int), .int .u32 (iv : Int), .slice A5 j c5, .int .u32 0, .int .i64 (now + 20), .int .i64 1, .int .i64 ttl] 75)).alloc (.cells #[] 75)).ownsRow wr.heap.size 75 10 (.slice (some ⟨wr.drew.heap.size + 1, 0, none⟩) 0 0) 0 [] from (by have h := own_base (base' := wr.heap.size) (own_nil (wr.drew.alloc (.cells #[.int .u16 (dst : Int), .int .u16 (src : Int), .bool app, .int .u32 (seq : Int), .int .u32 (iv : Int), .slice A5 j c5, .int .u32 0, .int .i64 (now + 20), .int .i64 1, .int .i64 ttl] 75)) 75 10) (show wr.heap.size ≤ (wr.drew.alloc (.cells #[.int .u16 (dst : Int), .int .u16 (src : Int), .bool app, .int .u32 (seq : Int), .int .u32 (iv : Int), .slice A5 j c5, .int .u32 0, .int .i64 (now + 20), .int .i64 1, .int .i64 ttl] 75)).heap.size by simp); rw [World.size_alloc] at h; exact h))
                          have HBW := Lib.hid (show Below wr.heap.size wr ((wr.drew.alloc (.cells #[.int .u16 (dst : Int), .int .u16 (src : Int), .bool app, .int .u32 (seq : Int), .int .u32 (iv : Int), .slice A5 j c5, .int .u32 0, .int .i64 (now + 20), .int .i64 1, .int .i64 ttl] 75)).alloc (.cells #[] 75)) from (((Below.refl wr.heap.size wr).drew).alloc (Nat.le_refl _) _).alloc (by simp) _)
                          refine step_sl _ elO rfl (.tmp 140) (.tmp 142) rfl rfl HOWN.out rfl (HSW.out _ HBW.out) ?_ ?_ ?_ ?_
                          · exact HONE.out
                          · omega
                          · exact HBW.out.size
                          intro v9 w9 hown9 hg9 hnil9 hat9
                          rw [Nat.zero_add, List.nil_append] at hown9
                          have hb10 : Below wr.heap.size wr w9 := below_app HBW.out HOWN.out hg9 (Nat.le_refl _) HBW.out.size
                          have HB10 := Lib.hid hb10
                          have H5 := Lib.hid (show Box w9 wr.heap.size (outCs ⟨dst, src, app, seq, iv, [], 0, now + 20, 1, ttl⟩ (.slice A5 j c5)) from Box.grown (show Box ((wr.drew.alloc (.cells #[.int .u16 (dst : Int), .int .u16 (src : Int), .bool app, .int .u32 (seq : Int), .int .u32 (iv : Int), .slice A5 j c5, .int .u32 0, .int .i64 (now + 20), .int .i64 1, .int .i64 ttl] 75)).alloc (.cells #[] 75)) wr.heap.size (outCs ⟨dst, src, app, seq, iv, [], 0, now + 20, 1, ttl⟩ (.slice A5 j c5)) from Box.alloc (Box.new wr.drew _ _) _) hg9 (show (some wr.heap.size : Option Nat) ≠ some (wr.heap.size + 1) by simp))
                          have HX9 := Lib.hid (HX6.out.on hb10)
                          have g0 := HX9.out.cell (j := 0) rfl
                          have g1 := HX9.out.cell (j := 1) rfl
                          have g2 := HX9.out.cell (j := 2) rfl
                          have g3 := HX9.out.cell (j := 3) rfl
                          have g4 := HX9.out.cell (j := 4) rfl
                          have g5 := HX9.out.cell (j := 5) rfl
                          have g6 := HX9.out.cell (j := 6) rfl
                          have g7 := HX9.out.cell (j := 7) rfl
                          have g8 := HX9.out.cell (j := 8) rfl
                          have g9 := HX9.out.cell (j := 9) rfl
                          have y9 := HX9.out.lt
                          have k0 := ((J0.out.keep HB6.out J0.out.lt).on hb10).cell (j := 0) rfl
                          have kz := ((J0.out.keep HB6.out J0.out.lt).on hb10).lt
                          have kf := ((J0.out.keep HB6.out J0.out.lt).on hb10).free 0
                          dsimp only at g0 g1 g2 g3 g4 g6 g7 g8 g9
                          obtain ⟨A9, c9, rfl⟩ := own_form hown9
                          have HO9 := Lib.hid hown9
                          clear hown9 hg9 hnil9 hat9 hb10
                          refine hK.out _ _ ⟨g0, g1, g2, g3, g4, g5, g6, g7, g8, g9⟩ (fun hHeld => ?_)
                          clear hK K
                          simp only [Act.put, List.getElem_toArray, List.getElem_cons_succ, List.getElem_cons_zero, List.setIfInBounds_toArray, List.set_cons_zero, List.set_cons_succ]
                          refine wpAnyH_ready (rs := [6]) (by kernel_rfl) (by simp) ?_
                          refine AllReadyH.cons rfl (fun K hK => ?_) AllReadyH.nil
                          refine step_sl _ elO rfl (.tmp 143) (.tmp 145) rfl rfl HO9.out rfl (Sl.of_box H5.out 1 rfl (by simp [maxLen])) ?_ ?_ ?_ ?_
                          · exact outCs_one (mOut ⟨src, dst, app, ttl, ssrc, iv, seq⟩ l now) (v := .slice A5 j c5) rfl
                          · omega
                          · exact HB10.out.size
                          intro v8 w8 hown8 hg8 hnil8 hat8
                          have hb8 : Below wr.heap.size wr w8 := below_app HB10.out HO9.out hg8 (Nat.le_refl _) (HB10.out.size)
                          have HB8 := Lib.hid hb8
                          have HX8 := Lib.hid (HX6.out.on hb8)
                          have m0 := HX8.out.cell (j := 0) rfl
                          have m1 := HX8.out.cell (j := 1) rfl
                          have m2 := HX8.out.cell (j := 2) rfl
                          have m3 := HX8.out.cell (j := 3) rfl
                          have m4 := HX8.out.cell (j := 4) rfl
                          have m5 := HX8.out.cell (j := 5) rfl
                          have m6 := HX8.out.cell (j := 6) rfl
                          have m7 := HX8.out.cell (j := 7) rfl
                          have m8 := HX8.out.cell (j := 8) rfl
                          have m9 := HX8.out.cell (j := 9) rfl
                          dsimp only at m0 m1 m2 m3 m4 m6 m7 m8 m9
                          have y8 := HX8.out.lt
                          have t0 := ((J0.out.keep HB6.out J0.out.lt).on hb8).cell (j := 0) rfl
                          have tz := ((J0.out.keep HB6.out J0.out.lt).on hb8).lt
                          have tf := ((J0.out.keep HB6.out J0.out.lt).on hb8).free 0
                          obtain ⟨A6, c6, rfl⟩ := own_form hown8
                          have HO8 := Lib.hid hown8
                          clear hown8 hg8 hnil8 hat8 hb8
                          refine hK.out _ _ ⟨m0, m1, m2, m3, m4, m5, m6, m7, m8, m9⟩ (fun hHeld => ?_)
                          clear hK K
                          simp only [Act.put, List.getElem_toArray, List.getElem_cons_succ, List.getElem_cons_zero, List.setIfInBounds_toArray, List.set_cons_zero, List.set_cons_succ]
                          refine wpAnyH_take (i := 7) (v := ?_) rfl (by kernel_rfl) (by kernel_rfl) (by kernel_rfl) (fun _ _ _ h => h) (Or.inl ⟨by rfl, ?_⟩) (by assumption) ?_
                          rotate_left
                          · intro w hSw
                            (try dsimp only at hSw)
                            go_simp
                            first | done | with_reducible rfl
                          simp only [Act.put, List.getElem_toArray, List.getElem_cons_succ, List.getElem_cons_zero, List.setIfInBounds_toArray, List.set_cons_zero, List.set_cons_succ]
                          refine wpAnyH_ready (rs := [8]) (by kernel_rfl) (by simp) ?_
                          refine AllReadyH.cons rfl (fun K hK => ?_) AllReadyH.nil
                          go_simp
                          first | (refine hK.out _ _ ?_ (fun hHeld => ?_)) | (go_wp2_with fail; refine hK.out _ _ ?_ (fun hHeld => ?_))
                          · (go_keep; try omega)
                          clear hK K
                          try simp only [Act.put, List.getElem_toArray, List.getElem_cons_succ, List.getElem_cons_zero, List.setIfInBounds_toArray, List.set_cons_zero, List.set_cons_succ]
                          refine wpAnyH_done (by kernel_rfl) ?_ _
                          refine NoPanic.normal ?_
                          obtain ⟨Y, hY⟩ : ∃ Y, Y = w8.setCell ⟨w.heap.size, 0, none⟩ (.slice A6 (N + 1) c6) := ⟨_, rfl⟩
                          have hBW : Below w.heap.size w w8 := (HB1.out.trans (HB6.out.mono HB1.out.size)).trans (HB8.out.mono (Nat.le_trans HB1.out.size HB6.out.size))
                          have h18 : Below w1.heap.size w1 w8 := HB6.out.trans (HB8.out.mono HB6.out.size)
                          have HYB := Lib.hid (show Below w.heap.size w Y by rw [hY]; exact hBW.setCell (p := ⟨w.heap.size, 0, none⟩) (Nat.le_refl _) _)
                          have hYJ : Box Y w.heap.size [.slice A6 (N + 1) c6, .slice A2 M c2] := by rw [hY]; exact (J0.out.on h18).set 0 _
                          have hY2 : Box Y (w.heap.size + 1 + 1) [.slice none 0 0, .slice none 0 0] := by rw [hY]; exact (J2.out.on h18).far (show w.heap.size + 1 + 1 ≠ w.heap.size by omega) _
                          have HYO := Lib.hid (show Y.ownsRow wr.heap.size 75 10 (.slice A6 (N + 1) c6) (N + 1) (flat2 outCs os vs ++ outCs (mOut ⟨src, dst, app, ttl, ssrc, iv, seq⟩ l now) (.slice A5 j c5)) by rw [hY]; exact own_far HO8.out (by have := JZ.out; omega) 0 _)
                          have HYP := Lib.hid (show OwnParts Y (w1.heap.size + 1) (.slice A5 j c5) (chunks l j) by rw [hY]; exact (HP6.out.on HB8.out).far (by have := JZ.out; omega) 0 _)
                          have HYL := Lib.hid (show OwnLows Y (w1.heap.size + 1) (.slice A8 j c8) (segs ⟨src, dst, app, ttl, ssrc, iv, seq⟩ l now j) by rw [hY]; exact (HL6.out.on HB8.out).far (by have := JZ.out; omega) 0 _)
                          rw [← hY]
                          clear hY hHeld d0 d1 d2 d3 d4 d5 d6 d7 d8 d9 m0 m1 m2 m3 m4 m5 m6 m7 m8 m9 g0 g1 g2 g3 g4 g5 g6 g7 g8 g9 y5 y8 y9 t0 tz tf k0 kz kf b0 b1 y0
                          have p0 := hYJ.cell (j := 0) rfl
                          have p1 := hYJ.cell (j := 1) rfl
                          have r0 := hY2.cell (j := 0) rfl
                          have r1 := hY2.cell (j := 1) rfl
                          have f0 := hY2.free 0
                          have f1 := hY2.free 1
                          have z0 := hYJ.lt
                          have z2 := hY2.lt
                          have HY2 := Lib.hid hY2
                          clear hYJ hY2 h18 hBW
                          go_wp2_with fail
                          obtain ⟨Z, hZ⟩ : ∃ Z, Z = Y.setCells (w.heap.size + 1 + 1) 0 [.slice A6 (N + 1) c6, .slice A2 M c2] := ⟨_, rfl⟩
                          have zr : w.heap.size + 1 + 1 < w1.heap.size + 1 := by have := JZ.out; omega
                          have zw : w.heap.size + 1 + 1 < wr.heap.size := by have := JZ.out; have := HB6.out.size; omega
                          have hZB : Below w.heap.size w Z := by rw [hZ]; exact below_puts (b := w.heap.size + 1 + 1) (by omega) 0 _ HYB.out
                          have hZR : Box Z (w.heap.size + 1 + 1) [.slice A6 (N + 1) c6, .slice A2 M c2] := by rw [hZ]; exact HY2.out.put _ rfl
                          have hZO : Z.ownsRow wr.heap.size 75 10 (.slice A6 (N + 1) c6) (N + 1) (flat2 outCs os vs ++ outCs (mOut ⟨src, dst, app, ttl, ssrc, iv, seq⟩ l now) (.slice A5 j c5)) := by rw [hZ]; exact own_far (own_far HYO.out zw 0 _) zw 1 _
                          have hZP : OwnParts Z (w1.heap.size + 1) (.slice A5 j c5) (chunks l j) := by rw [hZ]; exact (HYP.out.far zr 0 _).far zr 1 _
                          have hZL : OwnLows Z (w1.heap.size + 1) (.slice A8 j c8) (segs ⟨src, dst, app, ttl, ssrc, iv, seq⟩ l now j) := by rw [hZ]; exact (HYL.out.far zr 0 _).far zr 1 _
                          rw [show (Y.setCell ⟨w.heap.size + 1 + 1, 0, none⟩ (.slice A6 (N + 1) c6)).setCell ⟨w.heap.size + 1 + 1, 1, none⟩ (.slice A2 M c2) = Z from hZ.symm]
                          clear hZ
                          refine bodyPost_ret (res_tr3 rfl _ _ (w.heap.size + 1 + 1) (.slice A6 (N + 1) c6) (.slice A2 M c2) rfl hZR) rfl (HOK.out _ _ _ _ _ rfl hZB ?_ ?_ ?_)
                          · rw [HSO1.out]
                            refine ⟨vs ++ [.slice A5 j c5], by simp [HVL.out, HN.out], ?_, parts_snoc (pf := OutS.parts) (HVL.out.trans HN.out.symm) (fun i o u hi hu => ((HVP.out i o u hi hu).on hZB)) ?_⟩
                            · rw [flat2_append _ _ _ _ (HVL.out.trans HN.out.symm), flat2_one, show (os ++ [mOut ⟨src, dst, app, ttl, ssrc, iv, seq⟩ l now]).length = N + 1 by simp [HN.out]]
                              exact Sl.of_own hZO
                            · show PartsV _ _ _ (chunks l (cntP l))
                              rw [HC.out]
                              exact hZP.reads
                          · exact HU.out.on hZB
                          · rw [HSL1.out]
                            exact hZL.reads
                      · go_simp
                        first | (refine hK.out _ _ ?_ (fun hHeld => ?_)) | (go_wp2_with fail; refine hK.out _ _ ?_ (fun hHeld => ?_))
                        · (go_keep; try omega)
                        clear hK K
                        try simp only [Act.put, List.getElem_toArray, List.getElem_cons_succ, List.getElem_cons_zero, List.setIfInBounds_toArray, List.set_cons_zero, List.set_cons_succ]
                        refine wpAnyH_ready (rs := [0, 2]) (by kernel_rfl) (by simp) ?_
                        refine AllReadyH.cons rfl (fun K hK => ?_) (AllReadyH.cons rfl (fun K hK => ?_) AllReadyH.nil)
                        · go_simp
                          first | (refine hK.out _ _ ?_ (fun hHeld => ?_)) | (go_wp2_with fail; refine hK.out _ _ ?_ (fun hHeld => ?_))
                          · (go_keep; try omega)
                          clear hK K
                          try simp only [Act.put, List.getElem_toArray, List.getElem_cons_succ, List.getElem_cons_zero, List.setIfInBounds_toArray, List.set_cons_zero, List.set_cons_succ]
                          refine wpAnyH_ready (rs := [2]) (by kernel_rfl) (by simp) ?_
                          refine AllReadyH.cons rfl (fun K hK => ?_) AllReadyH.nil
                          go_simp
                          first | (refine hK.out _ _ ?_ (fun hHeld => ?_)) | (go_wp2_with fail; refine hK.out _ _ ?_ (fun hHeld => ?_))
                          · (go_keep; try omega)
                          clear hK K
                          try simp only [Act.put, List.getElem_toArray, List.getElem_cons_succ, List.getElem_cons_zero, List.setIfInBounds_toArray, List.set_cons_zero, List.set_cons_succ]
                          refine wpAnyH_ready (rs := [3]) (by kernel_rfl) (by simp) ?_
                          refine AllReadyH.cons rfl (fun K hK => ?_) AllReadyH.nil
                          have HOWN := Lib.hid (show ((wr.drew.alloc (.cells #[.int .u16 (dst : Int), .int .u16 (src : Int), .bool app, .int .u32 (seq : Int), .int .u32 (iv : Int), .slice A5 j c5, .int .u32 0, .int .i64 (now + 20), .int .i64 1, .int .i64 ttl] 75)).alloc (.cells #[] 75)).ownsRow wr.heap.size 75 10 (.slice (some ⟨wr.drew.heap.size + 1, 0, none⟩) 0 0) 0 [] from (by have h := own_base (base' := wr.heap.size) (own_nil (wr.drew.alloc (.cells #[.int .u16 (dst : Int), .int .u16 (src : Int), .bool app, .int .u32 (seq : Int), .int .u32 (iv : Int), .slice A5 j c5, .int .u32 0, .int .i64 (now + 20), .int .i64 1, .int .i64 ttl] 75)) 75 10) (show wr.heap.size ≤ (wr.drew.alloc (.cells #[.int .u16 (dst : Int), .int .u16 (src : Int), .bool app, .int .u32 (seq : Int), .int .u32 (iv : Int), .slice A5 j c5, .int .u32 0, .int .i64 (now + 20), .int .i64 1, .int .i64 ttl] 75)).heap.size by simp); rw [World.size_alloc] at h; exact h))
                          have HBW := Lib.hid (show Below wr.heap.size wr ((wr.drew.alloc (.cells #[.int .u16 (dst : Int), .int .u16 (src : Int), .bool app, .int .u32 (seq : Int), .int .u32 (iv : Int), .slice A5 j c5, .int .u32 0, .int .i64 (now + 20), .int .i64 1, .int .i64 ttl] 75)).alloc (.cells #[] 75)) from (((Below.refl wr.heap.size wr).drew).alloc (Nat.le_refl _) _).alloc (by simp) _)
                          refine step_sl _ elO rfl (.tmp 140) (.tmp 142) rfl rfl HOWN.out rfl (HSW.out _ HBW.out) ?_ ?_ ?_ ?_
                          · exact HONE.out
                          · omega
                          · exact HBW.out.size
                          intro v9 w9 hown9 hg9 hnil9 hat9
                          rw [Nat.zero_add, List.nil_append] at hown9
                          have hb10 : Below wr.heap.size wr w9 := below_app HBW.out HOWN.out hg9 (Nat.le_refl _) HBW.out.size
                          have HB10 := Lib.hid hb10
                          have H5 := Lib.hid (show Box w9 wr.heap.size (outCs ⟨dst, src, app, seq, iv, [], 0, now + 20, 1, ttl⟩ (.slice A5 j c5)) from Box.grown (show Box ((wr.drew.alloc (.cells #[.int .u16 (dst : Int), .int .u16 (src : Int), .bool app, .int .u32 (seq : Int), .int .u32 (iv : Int), .slice A5 j c5, .int .u32 0, .int .i64 (now + 20), .int .i64 1, .int .i64 ttl] 75)).alloc (.cells #[] 75)) wr.heap.size (outCs ⟨dst, src, app, seq, iv, [], 0, now + 20, 1, ttl⟩ (.slice A5 j c5)) from Box.alloc (Box.new wr.drew _ _) _) hg9 (show (some wr.heap.size : Option Nat) ≠ some (wr.heap.size + 1) by simp))
                          have HX9 := Lib.hid (HX6.out.on hb10)
                          have g0 := HX9.out.cell (j := 0) rfl
                          have g1 := HX9.out.cell (j := 1) rfl
                          have g2 := HX9.out.cell (j := 2) rfl
                          have g3 := HX9.out.cell (j := 3) rfl
                          have g4 := HX9.out.cell (j := 4) rfl
                          have g5 := HX9.out.cell (j := 5) rfl
                          have g6 := HX9.out.cell (j := 6) rfl
                          have g7 := HX9.out.cell (j := 7) rfl
                          have g8 := HX9.out.cell (j := 8) rfl
                          have g9 := HX9.out.cell (j := 9) rfl
                          have y9 := HX9.out.lt
                          have k0 := ((J0.out.keep HB6.out J0.out.lt).on hb10).cell (j := 0) rfl
                          have kz := ((J0.out.keep HB6.out J0.out.lt).on hb10).lt
                          have kf := ((J0.out.keep HB6.out J0.out.lt).on hb10).free 0
                          dsimp only at g0 g1 g2 g3 g4 g6 g7 g8 g9
                          obtain ⟨A9, c9, rfl⟩ := own_form hown9
                          have HO9 := Lib.hid hown9
                          clear hown9 hg9 hnil9 hat9 hb10
                          refine hK.out _ _ ⟨g0, g1, g2, g3, g4, g5, g6, g7, g8, g9⟩ (fun hHeld => ?_)
                          clear hK K
                          simp only [Act.put, List.getElem_toArray, List.getElem_cons_succ, List.getElem_cons_zero, List.setIfInBounds_toArray, List.set_cons_zero, List.set_cons_succ]
                          refine wpAnyH_ready (rs := [6]) (by kernel_rfl) (by simp) ?_
                          refine AllReadyH.cons rfl (fun K hK => ?_) AllReadyH.nil
                          refine step_sl _ elO rfl (.tmp 143) (.tmp 145) rfl rfl HO9.out rfl (Sl.of_box H5.out 1 rfl (by simp [maxLen])) ?_ ?_ ?_ ?_
                          · exact outCs_one (mOut ⟨src, dst, app, ttl, ssrc, iv, seq⟩ l now) (v := .slice A5 j c5) rfl
                          · omega
                          · exact HB10.out.size
                          intro v8 w8 hown8 hg8 hnil8 hat8
                          have hb8 : Below wr.heap.size wr w8 := below_app HB10.out HO9.out hg8 (Nat.le_refl _) (HB10.out.size)
                          have HB8 := Lib.hid hb8
                          have HX8 := Lib.hid (HX6.out.on hb8)
                          have m0 := HX8.out.cell (j := 0) rfl
                          have m1 := HX8.out.cell (j := 1) rfl
                          have m2 := HX8.out.cell (j := 2) rfl
                          have m3 := HX8.out.cell (j := 3) rfl
                          have m4 := HX8.out.cell (j := 4) rfl
                          have m5 := HX8.out.cell (j := 5) rfl
                          have m6 := HX8.out.cell (j := 6) rfl
                          have m7 := HX8.out.cell (j := 7) rfl
                          have m8 := HX8.out.cell (j := 8) rfl
                          have m9 := HX8.out.cell (j := 9) rfl
                          dsimp only at m0 m1 m2 m3 m4 m6 m7 m8 m9
                          have y8 := HX8.out.lt
                          have t0 := ((J0.out.keep HB6.out J0.out.lt).on hb8).cell (j := 0) rfl
                          have tz := ((J0.out.keep HB6.out J0.out.lt).on hb8).lt
                          have tf := ((J0.out.keep HB6.out J0.out.lt).on hb8).free 0
                          obtain ⟨A6, c6, rfl⟩ := own_form hown8
                          have HO8 := Lib.hid hown8
                          clear hown8 hg8 hnil8 hat8 hb8
                          refine hK.out _ _ ⟨m0, m1, m2, m3, m4, m5, m6, m7, m8, m9⟩ (fun hHeld => ?_)
                          clear hK K
                          simp only [Act.put, List.getElem_toArray, List.getElem_cons_succ, List.getElem_cons_zero, List.setIfInBounds_toArray, List.set_cons_zero, List.set_cons_succ]
                          refine wpAnyH_take (i := 7) (v := ?_) rfl (by kernel_rfl) (by kernel_rfl) (by kernel_rfl) (fun _ _ _ h => h) (Or.inl ⟨by rfl, ?_⟩) (by assumption) ?_
                          rotate_left
                          · intro w hSw
                            (try dsimp only at hSw)
                            go_simp
                            first | done | with_reducible rfl
                          simp only [Act.put, List.getElem_toArray, List.getElem_cons_succ, List.getElem_cons_zero, List.setIfInBounds_toArray, List.set_cons_zero, List.set_cons_succ]
                          refine wpAnyH_ready (rs := [8]) (by kernel_rfl) (by simp) ?_
                          refine AllReadyH.cons rfl (fun K hK => ?_) AllReadyH.nil
                          go_simp
                          first | (refine hK.out _ _ ?_ (fun hHeld => ?_)) | (go_wp2_with fail; refine hK.out _ _ ?_ (fun hHeld => ?_))
                          · (go_keep; try omega)
                          clear hK K
                          try simp only [Act.put, List.getElem_toArray, List.getElem_cons_succ, List.getElem_cons_zero, List.setIfInBounds_toArray, List.set_cons_zero, List.set_cons_succ]
                          refine wpAnyH_done (by kernel_rfl) ?_ _
                          refine NoPanic.normal ?_
                          obtain ⟨Y, hY⟩ : ∃ Y, Y = w8.setCell ⟨w.heap.size, 0, none⟩ (.slice A6 (N + 1) c6) := ⟨_, rfl⟩
                          have hBW : Below w.heap.size w w8 := (HB1.out.trans (HB6.out.mono HB1.out.size)).trans (HB8.out.mono (Nat.le_trans HB1.out.size HB6.out.size))
                          have h18 : Below w1.heap.size w1 w8 := HB6.out.trans (HB8.out.mono HB6.out.size)
                          have HYB := Lib.hid (show Below w.heap.size w Y by rw [hY]; exact hBW.setCell (p := ⟨w.heap.size, 0, none⟩) (Nat.le_refl _) _)
                          have hYJ : Box Y w.heap.size [.slice A6 (N + 1) c6, .slice A2 M c2] := by rw [hY]; exact (J0.out.on h18).set 0 _
                          have hY2 : Box Y (w.heap.size + 1 + 1) [.slice none 0 0, .slice none 0 0] := by rw [hY]; exact (J2.out.on h18).far (show w.heap.size + 1 + 1 ≠ w.heap.size by omega) _
                          have HYO := Lib.hid (show Y.ownsRow wr.heap.size 75 10 (.slice A6 (N + 1) c6) (N + 1) (flat2 outCs os vs ++ outCs (mOut ⟨src, dst, app, ttl, ssrc, iv, seq⟩ l now) (.slice A5 j c5)) by rw [hY]; exact own_far HO8.out (by have := JZ.out; omega) 0 _)
                          have HYP := Lib.hid (show OwnParts Y (w1.heap.size + 1) (.slice A5 j c5) (chunks l j) by rw [hY]; exact (HP6.out.on HB8.out).far (by have := JZ.out; omega) 0 _)
                          have HYL := Lib.hid (show OwnLows Y (w1.heap.size + 1) (.slice A8 j c8) (segs ⟨src, dst, app, ttl, ssrc, iv, seq⟩ l now j) by rw [hY]; exact (HL6.out.on HB8.out).far (by have := JZ.out; omega) 0 _)
                          rw [← hY]
                          clear hY hHeld d0 d1 d2 d3 d4 d5 d6 d7 d8 d9 m0 m1 m2 m3 m4 m5 m6 m7 m8 m9 g0 g1 g2 g3 g4 g5 g6 g7 g8 g9 y5 y8 y9 t0 tz tf k0 kz kf b0 b1 y0
                          have p0 := hYJ.cell (j := 0) rfl
                          have p1 := hYJ.cell (j := 1) rfl
                          have r0 := hY2.cell (j := 0) rfl
                          have r1 := hY2.cell (j := 1) rfl
                          have f0 := hY2.free 0
                          have f1 := hY2.free 1
                          have z0 := hYJ.lt
                          have z2 := hY2.lt
                          have HY2 := Lib.hid hY2
                          clear hYJ hY2 h18 hBW
                          go_wp2_with fail
                          obtain ⟨Z, hZ⟩ : ∃ Z, Z = Y.setCells (w.heap.size + 1 + 1) 0 [.slice A6 (N + 1) c6, .slice A2 M c2] := ⟨_, rfl⟩
                          have zr : w.heap.size + 1 + 1 < w1.heap.size + 1 := by have := JZ.out; omega
                          have zw : w.heap.size + 1 + 1 < wr.heap.size := by have := JZ.out; have := HB6.out.size; omega
                          have hZB : Below w.heap.size w Z := by rw [hZ]; exact below_puts (b := w.heap.size + 1 + 1) (by omega) 0 _ HYB.out
                          have hZR : Box Z (w.heap.size + 1 + 1) [.slice A6 (N + 1) c6, .slice A2 M c2] := by rw [hZ]; exact HY2.out.put _ rfl
                          have hZO : Z.ownsRow wr.heap.size 75 10 (.slice A6 (N + 1) c6) (N + 1) (flat2 outCs os vs ++ outCs (mOut ⟨src, dst, app, ttl, ssrc, iv, seq⟩ l now) (.slice A5 j c5)) := by rw [hZ]; exact own_far (own_far HYO.out zw 0 _) zw 1 _
                          have hZP : OwnParts Z (w1.heap.size + 1) (.slice A5 j c5) (chunks l j) := by rw [hZ]; exact (HYP.out.far zr 0 _).far zr 1 _
                          have hZL : OwnLows Z (w1.heap.size + 1) (.slice A8 j c8) (segs ⟨src, dst, app, ttl, ssrc, iv, seq⟩ l now j) := by rw [hZ]; exact (HYL.out.far zr 0 _).far zr 1 _
                          rw [show (Y.setCell ⟨w.heap.size + 1 + 1, 0, none⟩ (.slice A6 (N + 1) c6)).setCell ⟨w.heap.size + 1 + 1, 1, none⟩ (.slice A2 M c2) = Z from hZ.symm]
                          clear hZ
                          refine bodyPost_ret (res_tr3 rfl _ _ (w.heap.size + 1 + 1) (.slice A6 (N + 1) c6) (.slice A2 M c2) rfl hZR) rfl (HOK.out _ _ _ _ _ rfl hZB ?_ ?_ ?_)
                          · rw [HSO1.out]
                            refine ⟨vs ++ [.slice A5 j c5], by simp [HVL.out, HN.out], ?_, parts_snoc (pf := OutS.parts) (HVL.out.trans HN.out.symm) (fun i o u hi hu => ((HVP.out i o u hi hu).on hZB)) ?_⟩
                            · rw [flat2_append _ _ _ _ (HVL.out.trans HN.out.symm), flat2_one, show (os ++ [mOut ⟨src, dst, app, ttl, ssrc, iv, seq⟩ l now]).length = N + 1 by simp [HN.out]]
                              exact Sl.of_own hZO
                            · show PartsV _ _ _ (chunks l (cntP l))
                              rw [HC.out]
                              exact hZP.reads
                          · exact HU.out.on hZB
                          · rw [HSL1.out]
                            exact hZL.reads
                        · go_simp
                          first | (refine hK.out _ _ ?_ (fun hHeld => ?_)) | (go_wp2_with fail; refine hK.out _ _ ?_ (fun hHeld => ?_))
                          · (go_keep; try omega)
                          clear hK K
                          try simp only [Act.put, List.getElem_toArray, List.getElem_cons_succ, List.getElem_cons_zero, List.setIfInBounds_toArray, List.set_cons_zero, List.set_cons_succ]
                          refine wpAnyH_ready (rs := [0]) (by kernel_rfl) (by simp) ?_
                          refine AllReadyH.cons rfl (fun K hK => ?_) AllReadyH.nil
                          go_simp
                          first | (refine hK.out _ _ ?_ (fun hHeld => ?_)) | (go_wp2_with fail; refine hK.out _ _ ?_ (fun hHeld => ?_))
                          · (go_keep; try omega)
                          clear hK K
                          try simp only [Act.put, List.getElem_toArray, List.getElem_cons_succ, List.getElem_cons_zero, List.setIfInBounds_toArray, List.set_cons_zero, List.set_cons_succ]
                          refine wpAnyH_ready (rs := [3]) (by kernel_rfl) (by simp) ?_
                          refine AllReadyH.cons rfl (fun K hK => ?_) AllReadyH.nil
                          have HOWN := Lib.hid (show ((wr.drew.alloc (.cells #[.int .u16 (dst : Int), .int .u16 (src : Int), .bool app, .int .u32 (seq : Int), .int .u32 (iv : Int), .slice A5 j c5, .int .u32 0, .int .i64 (now + 20), .int .i64 1, .int .i64 ttl] 75)).alloc (.cells #[] 75)).ownsRow wr.heap.size 75 10 (.slice (some ⟨wr.drew.heap.size + 1, 0, none⟩) 0 0) 0 [] from (by have h := own_base (base' := wr.heap.size) (own_nil (wr.drew.alloc (.cells #[.int .u16 (dst : Int), .int .u16 (src : Int), .bool app, .int .u32 (seq : Int), .int .u32 (iv : Int), .slice A5 j c5, .int .u32 0, .int .i64 (now + 20), .int .i64 1, .int .i64 ttl] 75)) 75 10) (show wr.heap.size ≤ (wr.drew.alloc (.cells #[.int .u16 (dst : Int), .int .u16 (src : Int), .bool app, .int .u32 (seq : Int), .int .u32 (iv : Int), .slice A5 j c5, .int .u32 0, .int .i64 (now + 20), .int .i64 1, .int .i64 ttl] 75)).heap.size by simp); rw [World.size_alloc] at h; exact h))
                          have HBW := Lib.hid (show Below wr.heap.size wr ((wr.drew.alloc (.cells #[.int .u16 (dst : Int), .int .u16 (src : Int), .bool app, .int .u32 (seq : Int), .int .u32 (iv : Int), .slice A5 j c5, .int .u32 0, .int .i64 (now + 20), .int .i64 1, .int .i64 ttl] 75)).alloc (.cells #[] 75)) from (((Below.refl wr.heap.size wr).drew).alloc (Nat.le_refl _) _).alloc (by simp) _)
                          refine step_sl _ elO rfl (.tmp 140) (.tmp 142) rfl rfl HOWN.out rfl (HSW.out _ HBW.out) ?_ ?_ ?_ ?_
                          · exact HONE.out
                          · omega
                          · exact HBW.out.size
                          intro v9 w9 hown9 hg9 hnil9 hat9
                          rw [Nat.zero_add, List.nil_append] at hown9
                          have hb10 : Below wr.heap.size wr w9 := below_app HBW.out HOWN.out hg9 (Nat.le_refl _) HBW.out.size
                          have HB10 := Lib.hid hb10
                          have H5 := Lib.hid (show Box w9 wr.heap.size (outCs ⟨dst, src, app, seq, iv, [], 0, now + 20, 1, ttl⟩ (.slice A5 j c5)) from Box.grown (show Box ((wr.drew.alloc (.cells #[.int .u16 (dst : Int), .int .u16 (src : Int), .bool app, .int .u32 (seq : Int), .int .u32 (iv : Int), .slice A5 j c5, .int .u32 0, .int .i64 (now + 20), .int .i64 1, .int .i64 ttl] 75)).alloc (.cells #[] 75)) wr.heap.size (outCs ⟨dst, src, app, seq, iv, [], 0, now + 20, 1, ttl⟩ (.slice A5 j c5)) from Box.alloc (Box.new wr.drew _ _) _) hg9 (show (some wr.heap.size : Option Nat) ≠ some (wr.heap.size + 1) by simp))
                          have HX9 := Lib.hid (HX6.out.on hb10)
                          have g0 := HX9.out.cell (j := 0) rfl
                          have g1 := HX9.out.cell (j := 1) rfl
                          have g2 := HX9.out.cell (j := 2) rfl
                          have g3 := HX9.out.cell (j := 3) rfl
                          have g4 := HX9.out.cell (j := 4) rfl
                          have g5 := HX9.out.cell (j := 5) rfl
                          have g6 := HX9.out.cell (j := 6) rfl
                          have g7 := HX9.out.cell (j := 7) rfl
                          have g8 := HX9.out.cell (j := 8) rfl
                          have g9 := HX9.out.cell (j := 9) rfl
                          have y9 := HX9.out.lt
                          have k0 := ((J0.out.keep HB6.out J0.out.lt).on hb10).cell (j := 0) rfl
                          have kz := ((J0.out.keep HB6.out J0.out.lt).on hb10).lt
                          have kf := ((J0.out.keep HB6.out J0.out.lt).on hb10).free 0
                          dsimp only at g0 g1 g2 g3 g4 g6 g7 g8 g9
                          obtain ⟨A9, c9, rfl⟩ := own_form hown9
                          have HO9 := Lib.hid hown9
                          clear hown9 hg9 hnil9 hat9 hb10
                          refine hK.out _ _ ⟨g0, g1, g2, g3, g4, g5, g6, g7, g8, g9⟩ (fun hHeld => ?_)
                          clear hK K
                          simp only [Act.put, List.getElem_toArray, List.getElem_cons_succ, List.getElem_cons_zero, List.setIfInBounds_toArray, List.set_cons_zero, List.set_cons_succ]
                          refine wpAnyH_ready (rs := [6]) (by kernel_rfl) (by simp) ?_
                          refine AllReadyH.cons rfl (fun K hK => ?_) AllReadyH.nil
                          refine step_sl _ elO rfl (.tmp 143) (.tmp 145) rfl rfl HO9.out rfl (Sl.of_box H5.out 1 rfl (by simp [maxLen])) ?_ ?_ ?_ ?_
                          · exact outCs_one (mOut ⟨src, dst, app, ttl, ssrc, iv, seq⟩ l now) (v := .slice A5 j c5) rfl
                          · omega
                          · exact HB10.out.size
                          intro v8 w8 hown8 hg8 hnil8 hat8
                          have hb8 : Below wr.heap.size wr w8 := below_app HB10.out HO9.out hg8 (Nat.le_refl _) (HB10.out.size)
                          have HB8 := Lib.hid hb8
                          have HX8 := Lib.hid (HX6.out.on hb8)
                          have m0 := HX8.out.cell (j := 0) rfl
                          have m1 := HX8.out.cell (j := 1) rfl
                          have m2 := HX8.out.cell (j := 2) rfl
                          have m3 := HX8.out.cell (j := 3) rfl
                          have m4 := HX8.out.cell (j := 4) rfl
                          have m5 := HX8.out.cell (j := 5) rfl
                          have m6 := HX8.out.cell (j := 6) rfl
                          have m7 := HX8.out.cell (j := 7) rfl
                          have m8 := HX8.out.cell (j := 8) rfl
                          have m9 := HX8.out.cell (j := 9) rfl
                          dsimp only at m0 m1 m2 m3 m4 m6 m7 m8 m9
                          have y8 := HX8.out.lt
                          have t0 := ((J0.out.keep HB6.out J0.out.lt).on hb8).cell (j := 0) rfl
                          have tz := ((J0.out.keep HB6.out J0.out.lt).on hb8).lt
                          have tf := ((J0.out.keep HB6.out J0.out.lt).on hb8).free 0
                          obtain ⟨A6, c6, rfl⟩ := own_form hown8
                          have HO8 := Lib.hid hown8
                          clear hown8 hg8 hnil8 hat8 hb8
                          refine hK.out _ _ ⟨m0, m1, m2, m3, m4, m5, m6, m7, m8, m9⟩ (fun hHeld => ?_)
                          clear hK K
                          simp only [Act.put, List.getElem_toArray, List.getElem_cons_succ, List.getElem_cons_zero, List.setIfInBounds_toArray, List.set_cons_zero, List.set_cons_succ]
                          refine wpAnyH_take (i := 7) (v := ?_) rfl (by kernel_rfl) (by kernel_rfl) (by kernel_rfl) (fun _ _ _ h => h) (Or.inl ⟨by rfl, ?_⟩) (by assumption) ?_
                          rotate_left
                          · intro w hSw
                            (try dsimp only at hSw)
                            go_simp
                            first | done | with_reducible rfl
                          simp only [Act.put, List.getElem_toArray, List.getElem_cons_succ, List.getElem_cons_zero, List.setIfInBounds_toArray, List.set_cons_zero, List.set_cons_succ]
                          refine wpAnyH_ready (rs := [8]) (by kernel_rfl) (by simp) ?_
                          refine AllReadyH.cons rfl (fun K hK => ?_) AllReadyH.nil
                          go_simp
                          first | (refine hK.out _ _ ?_ (fun hHeld => ?_)) | (go_wp2_with fail; refine hK.out _ _ ?_ (fun hHeld => ?_))
                          · (go_keep; try omega)
                          clear hK K
                          try simp only [Act.put, List.getElem_toArray, List.getElem_cons_succ, List.getElem_cons_zero, List.setIfInBounds_toArray, List.set_cons_zero, List.set_cons_succ]
                          refine wpAnyH_done (by kernel_rfl) ?_ _
                          refine NoPanic.normal ?_
                          obtain ⟨Y, hY⟩ : ∃ Y, Y = w8.setCell ⟨w.heap.size, 0, none⟩ (.slice A6 (N + 1) c6) := ⟨_, rfl⟩
                          have hBW : Below w.heap.size w w8 := (HB1.out.trans (HB6.out.mono HB1.out.size)).trans (HB8.out.mono (Nat.le_trans HB1.out.size HB6.out.size))
                          have h18 : Below w1.heap.size w1 w8 := HB6.out.trans (HB8.out.mono HB6.out.size)
                          have HYB := Lib.hid (show Below w.heap.size w Y by rw [hY]; exact hBW.setCell (p := ⟨w.heap.size, 0, none⟩) (Nat.le_refl _) _)
                          have hYJ : Box Y w.heap.size [.slice A6 (N + 1) c6, .slice A2 M c2] := by rw [hY]; exact (J0.out.on h18).set 0 _
                          have hY2 : Box Y (w.heap.size + 1 + 1) [.slice none 0 0, .slice none 0 0] := by rw [hY]; exact (J2.out.on h18).far (show w.heap.size + 1 + 1 ≠ w.heap.size by omega) _
                          have HYO := Lib.hid (show Y.ownsRow wr.heap.size 75 10 (.slice A6 (N + 1) c6) (N + 1) (flat2 outCs os vs ++ outCs (mOut ⟨src, dst, app, ttl, ssrc, iv, seq⟩ l now) (.slice A5 j c5)) by rw [hY]; exact own_far HO8.out (by have := JZ.out; omega) 0 _)
                          have HYP := Lib.hid (show OwnParts Y (w1.heap.size + 1) (.slice A5 j c5) (chunks l j) by rw [hY]; exact (HP6.out.on HB8.out).far (by have := JZ.out; omega) 0 _)
                          have HYL := Lib.hid (show OwnLows Y (w1.heap.size + 1) (.slice A8 j c8) (segs ⟨src, dst, app, ttl, ssrc, iv, seq⟩ l now j) by rw [hY]; exact (HL6.out.on HB8.out).far (by have := JZ.out; omega) 0 _)
                          rw [← hY]
                          clear hY hHeld d0 d1 d2 d3 d4 d5 d6 d7 d8 d9 m0 m1 m2 m3 m4 m5 m6 m7 m8 m9 g0 g1 g2 g3 g4 g5 g6 g7 g8 g9 y5 y8 y9 t0 tz tf k0 kz kf b0 b1 y0
                          have p0 := hYJ.cell (j := 0) rfl
                          have p1 := hYJ.cell (j := 1) rfl
                          have r0 := hY2.cell (j := 0) rfl
                          have r1 := hY2.cell (j := 1) rfl
                          have f0 := hY2.free 0
                          have f1 := hY2.free 1
                          have z0 := hYJ.lt
                          have z2 := hY2.lt
                          have HY2 := Lib.hid hY2
                          clear hYJ hY2 h18 hBW
                          go_wp2_with fail
                          obtain ⟨Z, hZ⟩ : ∃ Z, Z = Y.setCells (w.heap.size + 1 + 1) 0 [.slice A6 (N + 1) c6, .slice A2 M c2] := ⟨_, rfl⟩
                          have zr : w.heap.size + 1 + 1 < w1.heap.size + 1 := by have := JZ.out; omega
                          have zw : w.heap.size + 1 + 1 < wr.heap.size := by have := JZ.out; have := HB6.out.size; omega
                          have hZB : Below w.heap.size w Z := by rw [hZ]; exact below_puts (b := w.heap.size + 1 + 1) (by omega) 0 _ HYB.out
                          have hZR : Box Z (w.heap.size + 1 + 1) [.slice A6 (N + 1) c6, .slice A2 M c2] := by rw [hZ]; exact HY2.out.put _ rfl
                          have hZO : Z.ownsRow wr.heap.size 75 10 (.slice A6 (N + 1) c6) (N + 1) (flat2 outCs os vs ++ outCs (mOut ⟨src, dst, app, ttl, ssrc, iv, seq⟩ l now) (.slice A5 j c5)) := by rw [hZ]; exact own_far (own_far HYO.out zw 0 _) zw 1 _
                          have hZP : OwnParts Z (w1.heap.size + 1) (.slice A5 j c5) (chunks l j) := by rw [hZ]; exact (HYP.out.far zr 0 _).far zr 1 _
                          have hZL : OwnLows Z (w1.heap.size + 1) (.slice A8 j c8) (segs ⟨src, dst, app, ttl, ssrc, iv, seq⟩ l now j) := by rw [hZ]; exact (HYL.out.far zr 0 _).far zr 1 _
                          rw [show (Y.setCell ⟨w.heap.size + 1 + 1, 0, none⟩ (.slice A6 (N + 1) c6)).setCell ⟨w.heap.size + 1 + 1, 1, none⟩ (.slice A2 M c2) = Z from hZ.symm]
                          clear hZ
                          refine bodyPost_ret (res_tr3 rfl _ _ (w.heap.size + 1 + 1) (.slice A6 (N + 1) c6) (.slice A2 M c2) rfl hZR) rfl (HOK.out _ _ _ _ _ rfl hZB ?_ ?_ ?_)
                          · rw [HSO1.out]
                            refine ⟨vs ++ [.slice A5 j c5], by simp [HVL.out, HN.out], ?_, parts_snoc (pf := OutS.parts) (HVL.out.trans HN.out.symm) (fun i o u hi hu => ((HVP.out i o u hi hu).on hZB)) ?_⟩
                            · rw [flat2_append _ _ _ _ (HVL.out.trans HN.out.symm), flat2_one, show (os ++ [mOut ⟨src, dst, app, ttl, ssrc, iv, seq⟩ l now]).length = N + 1 by simp [HN.out]]
                              exact Sl.of_own hZO
                            · show PartsV _ _ _ (chunks l (cntP l))
                              rw [HC.out]
                              exact hZP.reads
                          · exact HU.out.on hZB
                          · rw [HSL1.out]
                            exact hZL.reads
/-- The reference's Send, whatever the message. -/
theorem rsend_any (os : List OutS) (is : List InS) (a : AccS) (l : List UInt8) (now : Int) (hl : l.length ≤ 65536) (hs : a.seq < 4294967296) (hnow : now ≤ 4611686018427387904) (hnow' : 0 ≤ now) (v u bv : Value) (w : World) (hv : RowV outCs 10 OutS.parts w w.heap.size v os) (hu : RowV inCs 11 InS.parts w w.heap.size u is) (hbv : BS w w.heap.size bv l)
    (ho : os.length ≤ 65536) : Calls Try.prog 48 #[.agg #[v, u], accV a bv, .int .i64 now] w (RSendPost os is a l now w) := by
  by_cases hb : badHead a l.length = true
  · exact rsend_bad os is a l now hl v u bv w hv hu hbv hb
  · exact rsend_good os is a l now hl hs hnow hnow' v u bv w hv hu hbv ho hb
end Go.Proofs.Ytkpjinkkjbljkaa
