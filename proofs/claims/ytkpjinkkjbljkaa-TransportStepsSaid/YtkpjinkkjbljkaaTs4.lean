/- Walks of netpdu.Node, Group and transport.refuse: whether a message is sent, or the error. No condition. -/
import Derived.Test.YtkpjinkkjbljkaaTs3
import Derived.Test.YtkpjinkkjbljkaaTr1
namespace Go.Proofs.Ytkpjinkkjbljkaa
open Go.RowKit

/-- Is it the address of a node? of a group? -/
def isNode (a : Nat) : Bool := decide (0 < a) && decide (a ≤ 32767)
def isGroup (a : Nat) : Bool := decide (49152 ≤ a)
set_option maxHeartbeats 1000000 in
theorem node_any (a : Nat) (w : World) : Calls Try.prog 46 #[.int .u16 (a : Int)] w fun e w' => e = .returned (.bool (isNode a)) ∧ w = w' := by
  go_enter Try.func46, Try.ntmps46
  go_wp2
  all_goals
    go_ret
    refine ⟨ret_bool ?_, rfl⟩
    unfold isNode
    rw [Bool.eq_iff_iff]
    simp
    omega
set_option maxHeartbeats 1000000 in
theorem rnode_any (a : Nat) (w : World) : Calls Try.prog 61 #[.int .u16 (a : Int)] w fun e w' => e = .returned (.bool (isNode a)) ∧ w = w' := by
  go_enter Try.func61, Try.ntmps61
  go_wp2
  all_goals
    go_ret
    refine ⟨ret_bool ?_, rfl⟩
    unfold isNode
    rw [Bool.eq_iff_iff]
    simp
    omega
set_option maxHeartbeats 1000000 in
theorem group_any (a : Nat) (w : World) : Calls Try.prog 59 #[.int .u16 (a : Int)] w fun e w' => e = .returned (.bool (isGroup a)) ∧ w = w' := by
  go_enter Try.func59, Try.ntmps59
  go_wp2
  all_goals
    go_ret
    refine ⟨ret_bool ?_, rfl⟩
    unfold isGroup
    rw [Bool.eq_iff_iff]
    simp
    omega
set_option maxHeartbeats 1000000 in
theorem rgroup_any (a : Nat) (w : World) : Calls Try.prog 62 #[.int .u16 (a : Int)] w fun e w' => e = .returned (.bool (isGroup a)) ∧ w = w' := by
  go_enter Try.func62, Try.ntmps62
  go_wp2
  all_goals
    go_ret
    refine ⟨ret_bool ?_, rfl⟩
    unfold isGroup
    rw [Bool.eq_iff_iff]
    simp
    omega

/-- A message of the upper layers, but for its bytes. -/
structure AccS where
  src : Nat
  dst : Nat
  app : Bool
  ttl : Int
  ssrc : Nat
  iv : Nat
  seq : Nat
abbrev accCs (a : AccS) (v : Value) : List Value := [.int .u16 (a.src : Int), .int .u16 (a.dst : Int), .bool a.app, .int .i64 a.ttl, .int .u16 (a.ssrc : Int), .int .u32 (a.iv : Int), .int .u32 (a.seq : Int), v]
abbrev accV (a : AccS) (v : Value) : Value := .agg #[.int .u16 (a.src : Int), .int .u16 (a.dst : Int), .bool a.app, .int .i64 a.ttl, .int .u16 (a.ssrc : Int), .int .u32 (a.iv : Int), .int .u32 (a.seq : Int), v]
/-- Is the head of a message invalid, whatever the state? -/
def badHead (a : AccS) (n : Nat) : Bool := !isNode a.src || (!isNode a.dst && !isGroup a.dst) || decide (n = 0)
/-- The error of a message of n bytes, or 0. -/
def refuseN (os : List OutS) (a : AccS) (n : Nat) : Int :=
  if badHead a n = true then 1 else if 384 < n then 4 else if 16777215 < (a.seq : Int) + cntN n - 1 then 5 else if n ≤ 15 then 0
  else if (os.any fun o => o.dst == a.dst) = true then 20 else if 8 ≤ os.length then 8 else 0

set_option maxRecDepth 100000 in
set_option maxHeartbeats 4000000 in
theorem refuse_bad (a : AccS) (A : Option Addr) (n c : Nat) (hn : n ≤ 9223372036854775807) (v u : Value) (hv : ∃ A' n' c', v = .slice A' n' c') (hu : ∃ A' n' c', u = .slice A' n' c') (hb : badHead a n = true) (w : World) :
    Calls Try.prog 42 #[.agg #[v, u], accV a (.slice A n c)] w fun e w' => e = .returned (.int .i64 1) ∧ Below w.heap.size w w' := by
  obtain ⟨A1, n1, c1, rfl⟩ := hv
  obtain ⟨A2, n2, c2, rfl⟩ := hu
  obtain ⟨src, dst, app, ttl, ssrc, iv, seq⟩ := a
  have C1 := Lib.hid (node_any src)
  have C2 := Lib.hid (node_any dst)
  have C3 := Lib.hid (group_any dst)
  simp only [badHead] at hb
  generalize isNode src = b1 at *
  generalize isNode dst = b2 at *
  generalize isGroup dst = b3 at *
  have hn1 : ((n : Int) == 0) = decide (n = 0) := by rw [Bool.eq_iff_iff]; simp
  by_cases hn0 : n = 0
  · subst hn0
    rcases b1 with _ | _ <;> rcases b2 with _ | _ <;> rcases b3 with _ | _
    all_goals
      clear hb hn1
      go_enter Try.func42, Try.ntmps42
      go_wp2_with (first
        | (go_at_call 46; first | (with_reducible refine (C1.out _).mono ?_) | (with_reducible refine (C2.out _).mono ?_)
           rintro e w1 ⟨rfl, rfl⟩)
        | (go_at_call 59; refine (C3.out _).mono ?_; rintro e w1 ⟨rfl, rfl⟩))
      go_ret
      exact ⟨rfl, al2 _ _ _⟩
  · have hq : ((n : Int) == 0) = false := by simp; omega
    have hd : decide (n = 0) = false := decide_eq_false hn0
    rw [hd] at hb
    clear hn1 hd
    rcases b1 with _ | _ <;> rcases b2 with _ | _ <;> rcases b3 with _ | _
    all_goals first
      | (exfalso; revert hb; decide)
      | (clear hb
         go_enter Try.func42, Try.ntmps42
         go_wp2_with (first
           | (go_at_call 46; first | (with_reducible refine (C1.out _).mono ?_) | (with_reducible refine (C2.out _).mono ?_)
              rintro e w1 ⟨rfl, rfl⟩)
           | (go_at_call 59; refine (C3.out _).mono ?_; rintro e w1 ⟨rfl, rfl⟩))
         go_ret
         exact ⟨rfl, al2 _ _ _⟩)
      | fail

theorem any_take {os : List OutS} {k : Nat} {d : Nat} (h : (os.take k).any (fun o => o.dst == d) = false) {o : OutS} (ho : os[k]? = some o) (hne : (o.dst == d) = false) : (os.take (k + 1)).any (fun o => o.dst == d) = false := by
  obtain ⟨hk, rfl⟩ := List.getElem?_eq_some_iff.1 ho
  rw [List.take_succ_eq_append_getElem hk, List.any_append, h]
  simpa using hne
theorem any_at {os : List OutS} {k : Nat} {d : Nat} {o : OutS} (ho : os[k]? = some o) (he : (o.dst == d) = true) : os.any (fun o => o.dst == d) = true :=
  List.any_eq_true.2 ⟨o, List.mem_of_getElem? ho, he⟩
set_option maxRecDepth 100000 in
set_option maxHeartbeats 4000000 in
theorem refuse_any (os : List OutS) (a : AccS) (A : Option Addr) (n c : Nat) (hn : n ≤ 9223372036854775807) (hs : a.seq < 4294967296) (v u : Value) (w : World) (hv : RowV outCs 10 OutS.parts w w.heap.size v os) (hos : os.length ≤ 65536) (hu : ∃ A' n' c', u = .slice A' n' c') :
    Calls Try.prog 42 #[.agg #[v, u], accV a (.slice A n c)] w fun e w' => e = .returned (.int .i64 (refuseN os a n)) ∧ Below w.heap.size w w' := by
  by_cases hb : badHead a n = true
  · rw [show refuseN os a n = 1 by unfold refuseN; rw [if_pos hb]]
    exact refuse_bad a A n c hn v u (by obtain ⟨vs, _, ⟨A', c', rfl, _⟩, _⟩ := hv; exact ⟨_, _, _, rfl⟩) hu hb w
  obtain ⟨vs, hvl, hvs, hvp⟩ := hv
  obtain ⟨A1, c1, rfl, hnc1, hcm1, hcl1, _⟩ := id hvs
  obtain ⟨A2, n2, c2, rfl⟩ := hu
  have HR := Lib.hid (show refuseN os a n = if 384 < n then 4 else if 16777215 < (a.seq : Int) + cntN n - 1 then 5 else if n ≤ 15 then 0
    else if (os.any fun o => o.dst == a.dst) = true then 20 else if 8 ≤ os.length then 8 else 0 by unfold refuseN; rw [if_neg hb])
  generalize refuseN os a n = R at *
  obtain ⟨src, dst, app, ttl, ssrc, iv, seq⟩ := a
  dsimp only at HR hs
  have C1 := Lib.hid (node_any src)
  have C2 := Lib.hid (node_any dst)
  have C3 := Lib.hid (group_any dst)
  have CC := Lib.hid (count_any (n : Int))
  have HC := Lib.hid (show cntN n = if (n : Int) < 1 ∨ 384 < (n : Int) then 0 else if (n : Int) ≤ 15 then 1 else ((n : Int) + 11) / 12 from rfl)
  simp only [badHead, Bool.not_eq_true] at hb
  generalize isNode src = b1 at *
  generalize isNode dst = b2 at *
  generalize isGroup dst = b3 at *
  generalize hN : os.length = N at *
  have HN := Lib.hid hN
  have HVL := Lib.hid hvl
  have HVS := Lib.hid hvs
  have HVP := Lib.hid hvp
  have hn0 : n ≠ 0 := by rintro rfl; simp at hb
  have hq : ((n : Int) == 0) = false := by simp; omega
  rw [decide_eq_false hn0] at hb
  clear hvl hvs hvp hcl1 hN
  have hbb : b1 = true ∧ (b2 = true ∨ b2 = false ∧ b3 = true) := by
    rcases b1 with _ | _ <;> rcases b2 with _ | _ <;> rcases b3 with _ | _ <;> simp at hb ⊢
  clear hb
  obtain ⟨rfl, hbb⟩ := hbb
  rcases hbb with rfl | ⟨rfl, rfl⟩
  all_goals
    go_enter Try.func42, Try.ntmps42
    go_upto_region 4 with (first
           | (go_at_call 46; first | (with_reducible refine (C1.out _).mono ?_) | (with_reducible refine (C2.out _).mono ?_)
              rintro e w1 ⟨rfl, rfl⟩)
           | (go_at_call 59; refine (C3.out _).mono ?_; rintro e w1 ⟨rfl, rfl⟩))
    obtain ⟨W, hW⟩ : ∃ W, W = (w.alloc (.cells #[.slice A1 N c1, .slice A2 n2 c2] 47)).alloc (.cells #[.int .u16 (src : Int), .int .u16 (dst : Int), .bool app, .int .i64 ttl, .int .u16 (ssrc : Int), .int .u32 (iv : Int), .int .u32 (seq : Int), .slice A n c] 43) := ⟨_, rfl⟩
    have hA : Below w.heap.size w W := by rw [hW]; exact al2 _ _ _
    have hb0 : Box W w.heap.size [.slice A1 N c1, .slice A2 n2 c2] := by rw [hW]; exact (Box.new _ _ _).alloc _
    have hb1 : Box W (w.heap.size + 1) (accCs ⟨src, dst, app, ttl, ssrc, iv, seq⟩ (.slice A n c)) := ⟨43, by rw [hW, heap_al, if_pos (by simp)]⟩
    rw [← hW]
    clear hW
    have HA := Lib.hid hA
    have H0 := Lib.hid hb0
    have H1 := Lib.hid hb1
    by_cases h384 : 384 < n
    · have HR4 := Lib.hid (show R = 4 by rw [HR.out, if_pos h384])
      have g1 : decide (384 < n) = true := decide_eq_true h384
      clear hA hb0 hb1 HR hs hcm1 hq
      go_wp2_with fail
      go_ret
      exact ⟨by rw [HR4.out]; rfl, HA.out⟩
    · have hR := HR.out
      rw [if_neg h384] at hR
      have g1 : decide (384 < n) = false := decide_eq_false h384
      have z1 := hb1.lt
      obtain ⟨m, hm, hm1, hm2⟩ : ∃ m : Nat, cntN (n : Int) = (m : Int) ∧ 1 ≤ m ∧ m ≤ 32 := by
        rw [HC.out, if_neg (by omega)]
        by_cases h15 : n ≤ 15
        · exact ⟨1, by rw [if_pos (by omega)]; rfl, by omega, by omega⟩
        · exact ⟨(n + 11) / 12, by rw [if_neg (by omega)]; omega, by omega, by omega⟩
      rw [hm] at hR CC
      have c6 := hb1.cell (j := 6) rfl
      have c1' := hb1.cell (j := 1) rfl
      have w1 := wr64 (x := seq) (by omega)
      have w2 := wr64 (x := m) (by omega)
      have w3 : IntKind.u64.wrap ((seq : Int) + (m : Int)) = (seq : Int) + (m : Int) := by rw [IntKind.wrap_u64]; omega
      have w4 : IntKind.u64.wrap ((seq : Int) + (m : Int) - 1) = (seq : Int) + (m : Int) - 1 := by rw [IntKind.wrap_u64]; omega
      have HHR := Lib.hid hR
      clear hR HC HR hA hb0 hb1 hm
      go_wp2_with fail
      go_region_held3 (fun w' => w'.cell? ⟨w.heap.size + 1, 6, none⟩ = some (.int .u32 (seq : Int))) (go_keep) (first | (go_at_call 14; refine (CC.out _).mono ?_; rintro e w' ⟨rfl, rfl⟩))
      by_cases h5 : 16777215 < (seq : Int) + (m : Int) - 1
      · have HR5 := Lib.hid (show R = 5 by rw [HHR.out, if_pos h5])
        have g2 : decide (16777215 < (seq : Int) + (m : Int) - 1) = true := decide_eq_true h5
        clear HHR c6 c1' w1 w2 w3 w4 hm1 hm2
        go_wp2_with fail
        go_ret
        exact ⟨by rw [HR5.out]; rfl, HA.out.drew⟩
      · have g2 : decide (16777215 < (seq : Int) + (m : Int) - 1) = false := decide_eq_false h5
        have hR := HHR.out
        rw [if_neg h5] at hR
        clear HHR
        by_cases h15 : n ≤ 15
        · rw [if_pos h15] at hR
          have HR6 := Lib.hid hR
          clear hR c6 c1' w1 w2 w3 w4 hm1 hm2
          go_wp2_with fail
          go_ret
          exact ⟨by rw [HR6.out]; rfl, HA.out.drew⟩
        · rw [if_neg h15] at hR
          have HR6 := Lib.hid hR
          have c0 := (H0.out.drew).cell (j := 0) rfl
          clear hR c6 c1' w1 w2 w3 w4 hm1 hm2
          have H0' := Lib.hid H0.out.drew
          have H1' := Lib.hid H1.out.drew
          have HA' := Lib.hid HA.out.drew
          clear H0 H1 HA
          generalize W.drew = W at *
          go_wp2_with fail
          go_loopw [52] (fun i wr => ∃ k : Nat, k ≤ N ∧ i = .int .i64 k ∧ (os.take k).any (fun o => o.dst == dst) = false ∧ Below W.heap.size W wr) (fun i _ => N - (intOf i).toNat)
          case atStart => exact ⟨0, Nat.zero_le _, rfl, rfl, Below.refl _ _⟩
          case round =>
            obtain ⟨k, hk, rfl, hany, hbel⟩ := hrel
            have HY := Lib.hid hany
            have HB := Lib.hid hbel
            by_cases hlt : k < N
            · have hko : k < os.length := by rw [HN.out]; exact hlt
              have hkv : k < vs.length := by rw [HVL.out]; exact hlt
              have hat := fun (j : Nat) (hj : j < 10) => flat2_at outCs_len os vs k _ _ j (by rw [HVL.out, HN.out]) (List.getElem?_eq_getElem hko) (List.getElem?_eq_getElem hkv) hj
              have hsw := (HVS.out.below HA'.out).below (hbel.mono HA'.out.size)
              have HKO := Lib.hid (List.getElem?_eq_getElem hko)
              obtain ⟨A3, n3, c3, hvk⟩ := partsV_form (HVP.out k _ _ (List.getElem?_eq_getElem hko) (List.getElem?_eq_getElem hkv))
              rw [hvk] at hat
              clear hvk
              obtain ⟨bb, off, rfl, hbB, hcell⟩ := hsw.cells (hat 0 (by omega))
              have e0 := hcell _ _ (hat 0 (by omega))
              have e1 := hcell _ _ (hat 1 (by omega))
              have e2 := hcell _ _ (hat 2 (by omega))
              have e3 := hcell _ _ (hat 3 (by omega))
              have e4 := hcell _ _ (hat 4 (by omega))
              have e5 := hcell _ _ (hat 5 (by omega))
              have e6 := hcell _ _ (hat 6 (by omega))
              have e7 := hcell _ _ (hat 7 (by omega))
              have e8 := hcell _ _ (hat 8 (by omega))
              have e9 := hcell _ _ (hat 9 (by omega))
              simp only [← Nat.add_assoc, Nat.add_zero] at e0 e1 e2 e3 e4 e5 e6 e7 e8 e9
              have d1 := (H1'.out.keep hbel H1'.out.lt).cell (j := 1) rfl
              have zd : w.heap.size + 1 < wr.heap.size := Nat.lt_of_lt_of_le H1'.out.lt hbel.size
              generalize os[k] = ok at *
              obtain ⟨o0, o1, o2, o3, o4, o5, o6, o7, o8, o9⟩ := ok
              dsimp only at e0 e1 e2 e3 e4 e6 e7 e8 e9 d1
              clear hat hcell hsw hany hbel
              by_cases he : o0 = dst
              · subst he
                have HR7 := Lib.hid (show R = 20 by rw [HR6.out, if_pos (any_at HKO.out (by simp))])
                go_wp2_with fail
                go_ret
                exact ⟨by rw [HR7.out]; rfl, (HA'.out.trans (HB.out.mono HA'.out.size)).alloc (Nat.le_trans HA'.out.size HB.out.size) _⟩
              · have hne : ((o0 : Int) == (dst : Int)) = false := by simp; omega
                have HNE := Lib.hid (show (o0 == dst) = false by simpa using he)
                clear he
                go_wp2_with fail
                go_roundw
                case rel => exact ⟨k + 1, by omega, by go_num, any_take HY.out HKO.out HNE.out, HB.out.alloc HB.out.size _⟩
                case measure => simp [intOf]; omega
            · obtain rfl : k = N := by omega
              have hfull : os.any (fun o => o.dst == dst) = false := by have := hany; rwa [List.take_of_length_le (by rw [HN.out]; exact Nat.le_refl _)] at this
              have HF := Lib.hid hfull
              have e0 := (H0'.out.on hbel).cell (j := 0) rfl
              have z0 := (H0'.out.on hbel).lt
              clear hfull hany hbel
              have hR7 := HR6.out
              rw [if_neg (by rw [HF.out]; decide)] at hR7
              by_cases h8 : 8 ≤ k
              · have HR8 := Lib.hid (show R = 8 by rw [hR7, if_pos h8])
                clear hR7
                go_wp2_with fail
                go_ret
                exact ⟨by rw [HR8.out]; rfl, HA'.out.trans (HB.out.mono HA'.out.size)⟩
              · have HR8 := Lib.hid (show R = 0 by rw [hR7, if_neg h8])
                have g8 : decide (8 ≤ k) = false := decide_eq_false h8
                clear hR7
                go_wp2_with fail
                go_ret
                exact ⟨by rw [HR8.out]; rfl, HA'.out.trans (HB.out.mono HA'.out.size)⟩
end Go.Proofs.Ytkpjinkkjbljkaa
