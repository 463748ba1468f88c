/- The walks of the laws SmpduBack, SmpduOne: for every argument they return true, wherever the tables hold their numbers. -/
import Derived.Test.YtpomobeogkfmfaaDoorLaw37b
namespace Go.Proofs.YtpomobeogkfmfaaDoor
open Go.RowKit

set_option maxRecDepth 100000 in
set_option maxHeartbeats 4000000 in
theorem smpduBack_bad (p : Sec) (hr : SecOk p) (hc : chkS p ≠ 0) (w : World) (hT : PTab w) : Calls Tryd.prog 14 #[secV p] w fun e w' => e = .returned (.bool true) ∧ Below w.heap.size w w' := by
  have HT := Lib.hid hT
  have C1 := Lib.hid (show ∀ w, PTab w → Calls Tryd.prog 35 #[secV p] w fun e w' => e = .returned (.tuple #[.slice none 0 0, .int .i64 (chkS p)]) ∧ Below w.heap.size w w' from
    fun w hT => (sencode_any p hr w hT).mono fun e w' hh => ⟨hh.2.2 hc, hh.1⟩)
  have C2 := Lib.hid (show ∀ w, PTab w → Calls Tryd.prog 33 #[secV p] w fun e w' => e = .returned (.int .i64 (chkS p)) ∧ Below w.heap.size w w' from scheck_any p)
  have hc' := ne_bool hc
  clear hT hr hc
  generalize chkS p = cc at *
  go_enter Tryd.func14, Tryd.ntmps14
  go_wp2_with fail
  refine (C1.out _ (HT.out.keep (al1 w _))).mono ?_
  rintro e w1 ⟨rfl, hb1⟩
  have hs := (SecAt.new w p 53).keep hb1 (by simp)
  have hz1 := sz1 hb1
  obtain ⟨c0, c1, c2, c3, c4, c5, c6, c7, c8, c9, c10, c11, c12⟩ := hs.cells
  have HB1 := Lib.hid (one hb1)
  clear hb1 hs
  go_wp2_with fail
  refine (C2.out _ (HT.out.keep HB1.out)).mono ?_
  rintro e w2 ⟨rfl, hb2⟩
  have HB2 := Lib.hid (bthen HB1.out hb2)
  clear hb2 c0 c1 c2 c3 c4 c5 c6 c7 c8 c9 c10 c11 c12
  go_wp2_with fail
  refine (lives37 _ (HT.out.keep HB2.out)).mono ?_
  rintro e w3 ⟨rfl, hb3⟩
  go_wp2
  go_ret
  exact ⟨by simp, bthen HB2.out hb3⟩

set_option maxRecDepth 100000 in
set_option maxHeartbeats 4000000 in
theorem smpduBack_ok (p : Sec) (hr : SecOk p) (hc : chkS p = 0) (w : World) (hT : PTab w) : Calls Tryd.prog 14 #[secV p] w fun e w' => e = .returned (.bool true) ∧ Below w.heap.size w w' := by
  have HT := Lib.hid hT
  have C1 := Lib.hid (show ∀ w, PTab w → Calls Tryd.prog 35 #[secV p] w fun e w' => Below w.heap.size w w' ∧ ∃ v, e = .returned (.tuple #[v, .int .i64 0]) ∧ BS w' w'.heap.size v (encS p) from
    fun w hT => (sencode_any p hr w hT).mono fun e w' hh => by
      obtain ⟨v, h1, h2⟩ := hh.2.1 hc
      exact ⟨hh.1, v, h1, BS.of_own rfl h2⟩)
  have C2 := Lib.hid (show ∀ w, PTab w → Calls Tryd.prog 33 #[secV p] w fun e w' => e = .returned (.int .i64 0) ∧ Below w.heap.size w w' from by
    intro w hT
    have h := scheck_any p w hT
    unfold CheckPost at h
    rwa [hc] at h)
  obtain ⟨d1, d2⟩ := dec_enc_sec hc hr
  have hlen : (encS p).length ≤ 140737488355328 := by
    have h1 := encS_length (chkS_ok hc).1
    have h2 : lenK p.kind ≤ 16 := by
      rcases hasK_yes (chkS_ok hc).1 with h | h | h | h | h | h | h | h | h <;> rw [h] <;> decide
    omega
  have C3 := Lib.hid (show ∀ (w : World) (v : Value), PTab w → BS w w.heap.size v (encS p) → Calls Tryd.prog 37 #[v] w fun e w' => e = .returned (.tuple #[secV p, .int .i64 0]) ∧ Below w.heap.size w w' from by
    intro w v hT hv
    have h := sdecode_any (encS p) v hlen w hv hT
    unfold SDecPost at h
    rwa [d1, d2] at h)
  have hq : ∀ w, (binOp .eql 53 (secV p) (secV p)).run Tryd.prog w = .ok (.bool true) w := by
    intro w
    rw [run_eql_sec, decide_eq_true rfl]
  clear hT hr hc d1 d2 hlen
  generalize encS p = ys at *
  go_enter Tryd.func14, Tryd.ntmps14
  go_wp2_with fail
  refine (C1.out _ (HT.out.keep (al1 w _))).mono ?_
  rintro e w1 ⟨hb1, u, rfl, hu⟩
  have hs := (SecAt.new w p 53).keep hb1 (by simp)
  have hz1 := sz1 hb1
  obtain ⟨c0, c1, c2, c3, c4, c5, c6, c7, c8, c9, c10, c11, c12⟩ := hs.cells
  have HS1 := Lib.hid hs
  have HB1 := Lib.hid (one hb1)
  have HU := Lib.hid hu
  clear hb1 hs hu
  go_wp2_with fail
  refine (C2.out _ (HT.out.keep HB1.out)).mono ?_
  rintro e w2 ⟨rfl, hb2⟩
  have HS2 := Lib.hid (HS1.out.keep hb2 hz1)
  have HB2 := Lib.hid (bthen HB1.out hb2)
  have HU2 := Lib.hid (HU.out.on hb2)
  clear hb2 c0 c1 c2 c3 c4 c5 c6 c7 c8 c9 c10 c11 c12
  go_wp2_with fail
  refine (C3.out _ _ (HT.out.keep HB2.out) HU2.out).mono ?_
  rintro e w3 ⟨rfl, hb3⟩
  have HS3 := Lib.hid (HS2.out.keep hb3 (sec_lt HS2.out))
  have hz3 := sec_lt HS3.out
  have HB3 := Lib.hid (bthen HB2.out hb3)
  clear hb3
  go_wp2_with fail
  refine (lives37 _ (HT.out.keep (HB3.out.alloc HB3.out.size _))).mono ?_
  rintro e w4 ⟨rfl, hb4⟩
  have hs1 := (HS3.out.keep (al1 w3 (.cells (secV p).cells 53)) hz3).keep hb4 (by simp; omega)
  have hs2 := (SecAt.new w3 p 53).keep hb4 (by simp)
  have hz4 := sec_lt hs1
  have hz5 := sec_lt hs2
  obtain ⟨c0, c1, c2, c3, c4, c5, c6, c7, c8, c9, c10, c11, c12⟩ := hs1.cells
  obtain ⟨d0, d1, d2, d3, d4, d5, d6, d7, d8, d9, d10, d11, d12⟩ := hs2.cells
  have HB4 := Lib.hid (bthen HB3.out (one hb4))
  clear hb4 hs1 hs2
  go_wp2
  go_ret
  exact ⟨by simp, HB4.out⟩
theorem smpduBack_walk (p : Sec) (hr : SecOk p) (w : World) (hT : PTab w) : Calls Tryd.prog 14 #[secV p] w fun e w' => e = .returned (.bool true) ∧ Below w.heap.size w w' := by
  by_cases hc : chkS p = 0
  · exact smpduBack_ok p hr hc w hT
  · exact smpduBack_bad p hr hc w hT

set_option maxRecDepth 100000 in
set_option maxHeartbeats 4000000 in
theorem smpduOne_long (l k : List UInt8) (v u : Value) (hl : 100 < l.length ∨ 100 < k.length) (w : World) (hb : BS w w.heap.size v l) (hu : BS w w.heap.size u k) (hT : PTab w) : Calls Tryd.prog 15 #[v, u] w fun e w' => e = .returned (.bool true) ∧ Below w.heap.size w w' := by
  obtain ⟨A, c, rfl, _⟩ := id hb
  obtain ⟨A', c', rfl, _⟩ := id hu
  have HT := Lib.hid hT
  clear hb hu hT
  by_cases h1 : 100 < l.length
  · clear hl
    go_enter Tryd.func15, Tryd.ntmps15
    go_wp2_with fail
    refine (lives37 _ HT.out).mono ?_
    rintro e w1 ⟨rfl, hb1⟩
    go_wp2
    go_ret
    exact ⟨rfl, hb1⟩
  · have h2 : 100 < k.length := by omega
    have h1' : decide ((100 : Int) < (l.length : Int)) = false := decide_eq_false (by omega)
    clear hl
    go_enter Tryd.func15, Tryd.ntmps15
    go_wp2_with fail
    refine (lives37 _ HT.out).mono ?_
    rintro e w1 ⟨rfl, hb1⟩
    go_wp2
    go_ret
    exact ⟨rfl, hb1⟩

set_option maxRecDepth 100000 in
set_option maxHeartbeats 4000000 in
theorem smpduOne_bad (l k : List UInt8) (v u : Value) (hl : l.length ≤ 100) (hk : k.length ≤ 100) (hd : decSE l ≠ 0) (w : World) (hb : BS w w.heap.size v l) (hu : BS w w.heap.size u k) (hT : PTab w) : Calls Tryd.prog 15 #[v, u] w fun e w' => e = .returned (.bool true) ∧ Below w.heap.size w w' := by
  have HT := Lib.hid hT
  have HBS := Lib.hid hb
  have C1 := Lib.hid (show ∀ W, Below w.heap.size w W → Calls Tryd.prog 37 #[v] W fun e w' => e = .returned (.tuple #[secC 0 0 false false false false false 0 0 0 0 0 0, .int .i64 (decSE l)]) ∧ Below W.heap.size W w' from by
    intro W hW
    have h := sdecode_any l v (by omega) W (HBS.out.on hW) (HT.out.keep hW)
    unfold SDecPost at h
    rwa [show decS l = sec0 by unfold decS; rw [if_neg hd]] at h)
  have hc' := ne_bool hd
  obtain ⟨A, c, rfl, _⟩ := id hb
  obtain ⟨A', c', rfl, _⟩ := id hu
  clear hb hu hT HBS hd
  generalize decSE l = cc at *
  have h1' : decide ((100 : Int) < (l.length : Int)) = false := decide_eq_false (by omega)
  go_enter Tryd.func15, Tryd.ntmps15
  go_wp2_with fail
  refine (C1.out _ (Below.refl _ _)).mono ?_
  rintro e w1 ⟨rfl, hb1⟩
  have HB1 := Lib.hid hb1
  clear hb1
  go_wp2_with fail
  refine (lives37 _ (HT.out.keep (HB1.out.alloc HB1.out.size _))).mono ?_
  rintro e w2 ⟨rfl, hb2⟩
  have hs : SecAt w2 w1.heap.size sec0 := (SecAt.new w1 sec0 53).keep hb2 (by simp)
  have hz2 := sec_lt hs
  have c0 : w2.cell? ⟨w1.heap.size, 0, none⟩ = some (.int .i64 0) := hs.cells.1
  have c1 : w2.cell? ⟨w1.heap.size, 1, none⟩ = some (.int .i64 0) := hs.cells.2.1
  have c2 : w2.cell? ⟨w1.heap.size, 2, none⟩ = some (.bool false) := hs.cells.2.2.1
  have c3 : w2.cell? ⟨w1.heap.size, 3, none⟩ = some (.bool false) := hs.cells.2.2.2.1
  have c4 : w2.cell? ⟨w1.heap.size, 4, none⟩ = some (.bool false) := hs.cells.2.2.2.2.1
  have c5 : w2.cell? ⟨w1.heap.size, 5, none⟩ = some (.bool false) := hs.cells.2.2.2.2.2.1
  have c6 : w2.cell? ⟨w1.heap.size, 6, none⟩ = some (.bool false) := hs.cells.2.2.2.2.2.2.1
  have c7 : w2.cell? ⟨w1.heap.size, 7, none⟩ = some (.int .u32 0) := hs.cells.2.2.2.2.2.2.2.1
  have c8 : w2.cell? ⟨w1.heap.size, 8, none⟩ = some (.int .u64 0) := hs.cells.2.2.2.2.2.2.2.2.1
  have c9 : w2.cell? ⟨w1.heap.size, 9, none⟩ = some (.int .i64 0) := hs.cells.2.2.2.2.2.2.2.2.2.1
  have c10 : w2.cell? ⟨w1.heap.size, 10, none⟩ = some (.int .u64 0) := hs.cells.2.2.2.2.2.2.2.2.2.2.1
  have c11 : w2.cell? ⟨w1.heap.size, 11, none⟩ = some (.int .u64 0) := hs.cells.2.2.2.2.2.2.2.2.2.2.2.1
  have c12 : w2.cell? ⟨w1.heap.size, 12, none⟩ = some (.int .i64 0) := hs.cells.2.2.2.2.2.2.2.2.2.2.2.2
  have HB2 := Lib.hid (bthen HB1.out (one hb2))
  clear hb2 hs
  go_wp2
  go_ret
  exact ⟨rfl, HB2.out⟩

set_option maxRecDepth 100000 in
set_option maxHeartbeats 4000000 in
theorem smpduOne_else (l k : List UInt8) (v u : Value) (hl : l.length ≤ 100) (hk : k.length ≤ 100) (hd : decSE l = 0) (hg : decSE k ≠ 0) (w : World) (hb : BS w w.heap.size v l) (hu : BS w w.heap.size u k) (hT : PTab w) : Calls Tryd.prog 15 #[v, u] w fun e w' => e = .returned (.bool true) ∧ Below w.heap.size w w' := by
  have HT := Lib.hid hT
  have HBS := Lib.hid hb
  have HUS := Lib.hid hu
  obtain ⟨en1, en2⟩ := enc_dec_sec hd
  have hchk : chkS (decS l) = 0 := by unfold decS; rw [if_pos hd]; exact (decSE_ok hd).2.2.2.2
  have C1 := Lib.hid (show ∀ W, Below w.heap.size w W → Calls Tryd.prog 37 #[v] W fun e w' => e = .returned (.tuple #[secV (decS l), .int .i64 0]) ∧ Below W.heap.size W w' from by
    intro W hW
    have h := sdecode_any l v (by omega) W (HBS.out.on hW) (HT.out.keep hW)
    unfold SDecPost at h
    rwa [hd] at h)
  have C2 := Lib.hid (show ∀ w, PTab w → Calls Tryd.prog 35 #[secV (decS l)] w fun e w' => Below w.heap.size w w' ∧ ∃ v, e = .returned (.tuple #[v, .int .i64 0]) ∧ BS w' w'.heap.size v l from
    fun w hT => (sencode_any (decS l) en2 w hT).mono fun e w' hh => by
      obtain ⟨v, h1, h2⟩ := hh.2.1 hchk
      rw [en1] at h2
      exact ⟨hh.1, v, h1, BS.of_own rfl h2⟩)
  have C3 := Lib.hid (show ∀ W, Below w.heap.size w W → Calls Tryd.prog 37 #[u] W fun e w' => e = .returned (.tuple #[secV (decS k), .int .i64 (decSE k)]) ∧ Below W.heap.size W w' from
    fun W hW => sdecode_any k u (by omega) W (HUS.out.on hW) (HT.out.keep hW))
  have hg' := ne_bool hg
  have HG := Lib.hid hg
  clear hg
  obtain ⟨A, c, rfl, _⟩ := id hb
  obtain ⟨A', c', rfl, _⟩ := id hu
  clear hb hu hT hd en1 en2 hchk
  generalize decS l = p at *
  generalize decS k = q at *
  generalize decSE k = cc at *
  have h1' : decide ((100 : Int) < (l.length : Int)) = false := decide_eq_false (by omega)
  go_enter Tryd.func15, Tryd.ntmps15
  go_wp2_with fail
  refine (C1.out _ (Below.refl _ _)).mono ?_
  rintro e w1 ⟨rfl, hb1⟩
  have HB1 := Lib.hid hb1
  clear hb1
  go_wp2_with fail
  refine (C2.out _ (HT.out.keep (HB1.out.alloc HB1.out.size _))).mono ?_
  rintro e w2 ⟨hb2, x, rfl, hx⟩
  have HS2 := Lib.hid ((SecAt.new w1 p 53).keep hb2 (by simp))
  have hz2 := sec_lt HS2.out
  have HB2 := Lib.hid (bthen HB1.out (one hb2))
  have HX2 := Lib.hid hx
  clear hb2 hx
  go_wp2_with fail
  refine (C3.out _ HB2.out).mono ?_
  rintro e w3 ⟨rfl, hb3⟩
  have HS3 := Lib.hid (HS2.out.keep hb3 hz2)
  have HB3 := Lib.hid (bthen HB2.out hb3)
  have HX3 := Lib.hid (HX2.out.on hb3)
  have hz3 := sec_lt HS3.out
  clear hb3
  go_upto_region 8 with fail
  refine wp_region_any (by kernel_rfl) ?_
  try (change wpAny _ _ _ _ _ _ _ (World.drew _))
  refine wpAny_ready (rs := [0]) (by kernel_rfl) (by simp) ?_
  refine AllReady.cons rfl (fun K hK => ?_) AllReady.nil
  go_simp
  refine (lives37 _ (HT.out.keep ((HB3.out.alloc HB3.out.size _).drew))).mono ?_
  rintro e w4 ⟨rfl, hb4⟩
  go_simp
  refine hK _ _ ?_
  clear hK K
  have HB4 := Lib.hid (bthen HB3.out (show Below w3.heap.size w3 w4 from one_drew hb4))
  have HX4 := Lib.hid (HX3.out.on (show Below w3.heap.size w3 w4 from one_drew hb4))
  clear hb4
  first
    | (refine wpAny_take (i := 1) (v := undef) rfl (by kernel_rfl) (by kernel_rfl) (by kernel_rfl) (fun _ _ _ h => h) (Or.inr ⟨by rfl, rfl⟩) ?_)
    | (refine wpAny_take (i := 1) (v := ?_) rfl (by kernel_rfl) (by kernel_rfl) (by kernel_rfl) (fun _ _ _ h => h) (Or.inl ⟨by rfl, ?_⟩) ?_
       rotate_left
       · intro w
         go_simp
         first | done | with_reducible rfl)
  simp only [Act.put, List.getElem_toArray, List.getElem_cons_succ, List.getElem_cons_zero, List.setIfInBounds_toArray, List.set_cons_zero, List.set_cons_succ]
  first
    | (refine wpAny_take (i := 2) (v := undef) rfl (by kernel_rfl) (by kernel_rfl) (by kernel_rfl) (fun _ _ _ h => h) (Or.inr ⟨by rfl, rfl⟩) ?_)
    | (refine wpAny_take (i := 2) (v := ?_) rfl (by kernel_rfl) (by kernel_rfl) (by kernel_rfl) (fun _ _ _ h => h) (Or.inl ⟨by rfl, ?_⟩) ?_
       rotate_left
       · intro w
         go_simp
         first | done | with_reducible rfl)
  simp only [Act.put, List.getElem_toArray, List.getElem_cons_succ, List.getElem_cons_zero, List.setIfInBounds_toArray, List.set_cons_zero, List.set_cons_succ]
  first
    | (refine wpAny_take (i := 3) (v := undef) rfl (by kernel_rfl) (by kernel_rfl) (by kernel_rfl) (fun _ _ _ h => h) (Or.inr ⟨by rfl, rfl⟩) ?_)
    | (refine wpAny_take (i := 3) (v := ?_) rfl (by kernel_rfl) (by kernel_rfl) (by kernel_rfl) (fun _ _ _ h => h) (Or.inl ⟨by rfl, ?_⟩) ?_
       rotate_left
       · intro w
         go_simp
         first | done | with_reducible rfl)
  simp only [Act.put, List.getElem_toArray, List.getElem_cons_succ, List.getElem_cons_zero, List.setIfInBounds_toArray, List.set_cons_zero, List.set_cons_succ]
  first
    | (refine wpAny_take (i := 4) (v := undef) rfl (by kernel_rfl) (by kernel_rfl) (by kernel_rfl) (fun _ _ _ h => h) (Or.inr ⟨by rfl, rfl⟩) ?_)
    | (refine wpAny_take (i := 4) (v := ?_) rfl (by kernel_rfl) (by kernel_rfl) (by kernel_rfl) (fun _ _ _ h => h) (Or.inl ⟨by rfl, ?_⟩) ?_
       rotate_left
       · intro w
         go_simp
         first | done | with_reducible rfl)
  simp only [Act.put, List.getElem_toArray, List.getElem_cons_succ, List.getElem_cons_zero, List.setIfInBounds_toArray, List.set_cons_zero, List.set_cons_succ]
  first
    | (refine wpAny_take (i := 5) (v := undef) rfl (by kernel_rfl) (by kernel_rfl) (by kernel_rfl) (fun _ _ _ h => h) (Or.inr ⟨by rfl, rfl⟩) ?_)
    | (refine wpAny_take (i := 5) (v := ?_) rfl (by kernel_rfl) (by kernel_rfl) (by kernel_rfl) (fun _ _ _ h => h) (Or.inl ⟨by rfl, ?_⟩) ?_
       rotate_left
       · intro w
         go_simp
         first | done | with_reducible rfl)
  simp only [Act.put, List.getElem_toArray, List.getElem_cons_succ, List.getElem_cons_zero, List.setIfInBounds_toArray, List.set_cons_zero, List.set_cons_succ]
  first
    | (refine wpAny_take (i := 6) (v := undef) rfl (by kernel_rfl) (by kernel_rfl) (by kernel_rfl) (fun _ _ _ h => h) (Or.inr ⟨by rfl, rfl⟩) ?_)
    | (refine wpAny_take (i := 6) (v := ?_) rfl (by kernel_rfl) (by kernel_rfl) (by kernel_rfl) (fun _ _ _ h => h) (Or.inl ⟨by rfl, ?_⟩) ?_
       rotate_left
       · intro w
         go_simp
         first | done | with_reducible rfl)
  simp only [Act.put, List.getElem_toArray, List.getElem_cons_succ, List.getElem_cons_zero, List.setIfInBounds_toArray, List.set_cons_zero, List.set_cons_succ]
  first
    | (refine wpAny_take (i := 7) (v := undef) rfl (by kernel_rfl) (by kernel_rfl) (by kernel_rfl) (fun _ _ _ h => h) (Or.inr ⟨by rfl, rfl⟩) ?_)
    | (refine wpAny_take (i := 7) (v := ?_) rfl (by kernel_rfl) (by kernel_rfl) (by kernel_rfl) (fun _ _ _ h => h) (Or.inl ⟨by rfl, ?_⟩) ?_
       rotate_left
       · intro w
         go_simp
         first | done | with_reducible rfl)
  simp only [Act.put, List.getElem_toArray, List.getElem_cons_succ, List.getElem_cons_zero, List.setIfInBounds_toArray, List.set_cons_zero, List.set_cons_succ]
  refine wpAny_ready (rs := [8]) (by kernel_rfl) (by simp) ?_
  refine AllReady.cons rfl (fun K hK => ?_) AllReady.nil
  go_simp
  refine (same_any _ _ l l _ HX4.out (HBS.out.on HB4.out)).mono ?_
  rintro e w5 ⟨rfl, rfl⟩
  rw [decide_eq_true rfl]
  go_simp
  refine hK _ _ ?_
  clear hK K
  first
    | (refine wpAny_take (i := 9) (v := undef) rfl (by kernel_rfl) (by kernel_rfl) (by kernel_rfl) (fun _ _ _ h => h) (Or.inr ⟨by rfl, rfl⟩) ?_)
    | (refine wpAny_take (i := 9) (v := ?_) rfl (by kernel_rfl) (by kernel_rfl) (by kernel_rfl) (fun _ _ _ h => h) (Or.inl ⟨by rfl, ?_⟩) ?_
       rotate_left
       · intro w
         go_simp
         first | done | with_reducible rfl)
  simp only [Act.put, List.getElem_toArray, List.getElem_cons_succ, List.getElem_cons_zero, List.setIfInBounds_toArray, List.set_cons_zero, List.set_cons_succ]
  first
    | (refine wpAny_take (i := 10) (v := undef) rfl (by kernel_rfl) (by kernel_rfl) (by kernel_rfl) (fun _ _ _ h => h) (Or.inr ⟨by rfl, rfl⟩) ?_)
    | (refine wpAny_take (i := 10) (v := ?_) rfl (by kernel_rfl) (by kernel_rfl) (by kernel_rfl) (fun _ _ _ h => h) (Or.inl ⟨by rfl, ?_⟩) ?_
       rotate_left
       · intro w
         go_simp
         first | done | with_reducible rfl)
  simp only [Act.put, List.getElem_toArray, List.getElem_cons_succ, List.getElem_cons_zero, List.setIfInBounds_toArray, List.set_cons_zero, List.set_cons_succ]
  first
    | (refine wpAny_take (i := 11) (v := undef) rfl (by kernel_rfl) (by kernel_rfl) (by kernel_rfl) (fun _ _ _ h => h) (Or.inr ⟨by rfl, rfl⟩) ?_)
    | (refine wpAny_take (i := 11) (v := ?_) rfl (by kernel_rfl) (by kernel_rfl) (by kernel_rfl) (fun _ _ _ h => h) (Or.inl ⟨by rfl, ?_⟩) ?_
       rotate_left
       · intro w
         go_simp
         first | done | with_reducible rfl)
  simp only [Act.put, List.getElem_toArray, List.getElem_cons_succ, List.getElem_cons_zero, List.setIfInBounds_toArray, List.set_cons_zero, List.set_cons_succ]
  first
    | (refine wpAny_take (i := 12) (v := undef) rfl (by kernel_rfl) (by kernel_rfl) (by kernel_rfl) (fun _ _ _ h => h) (Or.inr ⟨by rfl, rfl⟩) ?_)
    | (refine wpAny_take (i := 12) (v := ?_) rfl (by kernel_rfl) (by kernel_rfl) (by kernel_rfl) (fun _ _ _ h => h) (Or.inl ⟨by rfl, ?_⟩) ?_
       rotate_left
       · intro w
         go_simp
         first | done | with_reducible rfl)
  simp only [Act.put, List.getElem_toArray, List.getElem_cons_succ, List.getElem_cons_zero, List.setIfInBounds_toArray, List.set_cons_zero, List.set_cons_succ]
  first
    | (refine wpAny_take (i := 13) (v := undef) rfl (by kernel_rfl) (by kernel_rfl) (by kernel_rfl) (fun _ _ _ h => h) (Or.inr ⟨by rfl, rfl⟩) ?_)
    | (refine wpAny_take (i := 13) (v := ?_) rfl (by kernel_rfl) (by kernel_rfl) (by kernel_rfl) (fun _ _ _ h => h) (Or.inl ⟨by rfl, ?_⟩) ?_
       rotate_left
       · intro w
         go_simp
         first | done | with_reducible rfl)
  simp only [Act.put, List.getElem_toArray, List.getElem_cons_succ, List.getElem_cons_zero, List.setIfInBounds_toArray, List.set_cons_zero, List.set_cons_succ]
  first
    | (refine wpAny_take (i := 14) (v := undef) rfl (by kernel_rfl) (by kernel_rfl) (by kernel_rfl) (fun _ _ _ h => h) (Or.inr ⟨by rfl, rfl⟩) ?_)
    | (refine wpAny_take (i := 14) (v := ?_) rfl (by kernel_rfl) (by kernel_rfl) (by kernel_rfl) (fun _ _ _ h => h) (Or.inl ⟨by rfl, ?_⟩) ?_
       rotate_left
       · intro w
         go_simp
         first | done | with_reducible rfl)
  simp only [Act.put, List.getElem_toArray, List.getElem_cons_succ, List.getElem_cons_zero, List.setIfInBounds_toArray, List.set_cons_zero, List.set_cons_succ]
  first
    | (refine wpAny_take (i := 15) (v := undef) rfl (by kernel_rfl) (by kernel_rfl) (by kernel_rfl) (fun _ _ _ h => h) (Or.inr ⟨by rfl, rfl⟩) ?_)
    | (refine wpAny_take (i := 15) (v := ?_) rfl (by kernel_rfl) (by kernel_rfl) (by kernel_rfl) (fun _ _ _ h => h) (Or.inl ⟨by rfl, ?_⟩) ?_
       rotate_left
       · intro w
         go_simp
         first | done | with_reducible rfl)
  simp only [Act.put, List.getElem_toArray, List.getElem_cons_succ, List.getElem_cons_zero, List.setIfInBounds_toArray, List.set_cons_zero, List.set_cons_succ]
  first
    | (refine wpAny_take (i := 16) (v := undef) rfl (by kernel_rfl) (by kernel_rfl) (by kernel_rfl) (fun _ _ _ h => h) (Or.inr ⟨by rfl, rfl⟩) ?_)
    | (refine wpAny_take (i := 16) (v := ?_) rfl (by kernel_rfl) (by kernel_rfl) (by kernel_rfl) (fun _ _ _ h => h) (Or.inl ⟨by rfl, ?_⟩) ?_
       rotate_left
       · intro w
         go_simp
         first | done | with_reducible rfl)
  simp only [Act.put, List.getElem_toArray, List.getElem_cons_succ, List.getElem_cons_zero, List.setIfInBounds_toArray, List.set_cons_zero, List.set_cons_succ]
  first
    | (refine wpAny_take (i := 17) (v := undef) rfl (by kernel_rfl) (by kernel_rfl) (by kernel_rfl) (fun _ _ _ h => h) (Or.inr ⟨by rfl, rfl⟩) ?_)
    | (refine wpAny_take (i := 17) (v := ?_) rfl (by kernel_rfl) (by kernel_rfl) (by kernel_rfl) (fun _ _ _ h => h) (Or.inl ⟨by rfl, ?_⟩) ?_
       rotate_left
       · intro w
         go_simp
         first | done | with_reducible rfl)
  simp only [Act.put, List.getElem_toArray, List.getElem_cons_succ, List.getElem_cons_zero, List.setIfInBounds_toArray, List.set_cons_zero, List.set_cons_succ]
  first
    | (refine wpAny_take (i := 18) (v := undef) rfl (by kernel_rfl) (by kernel_rfl) (by kernel_rfl) (fun _ _ _ h => h) (Or.inr ⟨by rfl, rfl⟩) ?_)
    | (refine wpAny_take (i := 18) (v := ?_) rfl (by kernel_rfl) (by kernel_rfl) (by kernel_rfl) (fun _ _ _ h => h) (Or.inl ⟨by rfl, ?_⟩) ?_
       rotate_left
       · intro w
         go_simp
         first | done | with_reducible rfl)
  simp only [Act.put, List.getElem_toArray, List.getElem_cons_succ, List.getElem_cons_zero, List.setIfInBounds_toArray, List.set_cons_zero, List.set_cons_succ]
  first
    | (refine wpAny_take (i := 19) (v := undef) rfl (by kernel_rfl) (by kernel_rfl) (by kernel_rfl) (fun _ _ _ h => h) (Or.inr ⟨by rfl, rfl⟩) ?_)
    | (refine wpAny_take (i := 19) (v := ?_) rfl (by kernel_rfl) (by kernel_rfl) (by kernel_rfl) (fun _ _ _ h => h) (Or.inl ⟨by rfl, ?_⟩) ?_
       rotate_left
       · intro w
         go_simp
         first | done | with_reducible rfl)
  simp only [Act.put, List.getElem_toArray, List.getElem_cons_succ, List.getElem_cons_zero, List.setIfInBounds_toArray, List.set_cons_zero, List.set_cons_succ]
  first
    | (refine wpAny_take (i := 20) (v := undef) rfl (by kernel_rfl) (by kernel_rfl) (by kernel_rfl) (fun _ _ _ h => h) (Or.inr ⟨by rfl, rfl⟩) ?_)
    | (refine wpAny_take (i := 20) (v := ?_) rfl (by kernel_rfl) (by kernel_rfl) (by kernel_rfl) (fun _ _ _ h => h) (Or.inl ⟨by rfl, ?_⟩) ?_
       rotate_left
       · intro w
         go_simp
         first | done | with_reducible rfl)
  simp only [Act.put, List.getElem_toArray, List.getElem_cons_succ, List.getElem_cons_zero, List.setIfInBounds_toArray, List.set_cons_zero, List.set_cons_succ]
  first
    | (refine wpAny_take (i := 21) (v := undef) rfl (by kernel_rfl) (by kernel_rfl) (by kernel_rfl) (fun _ _ _ h => h) (Or.inr ⟨by rfl, rfl⟩) ?_)
    | (refine wpAny_take (i := 21) (v := ?_) rfl (by kernel_rfl) (by kernel_rfl) (by kernel_rfl) (fun _ _ _ h => h) (Or.inl ⟨by rfl, ?_⟩) ?_
       rotate_left
       · intro w
         go_simp
         first | done | with_reducible rfl)
  simp only [Act.put, List.getElem_toArray, List.getElem_cons_succ, List.getElem_cons_zero, List.setIfInBounds_toArray, List.set_cons_zero, List.set_cons_succ]
  first
    | (refine wpAny_take (i := 22) (v := undef) rfl (by kernel_rfl) (by kernel_rfl) (by kernel_rfl) (fun _ _ _ h => h) (Or.inr ⟨by rfl, rfl⟩) ?_)
    | (refine wpAny_take (i := 22) (v := ?_) rfl (by kernel_rfl) (by kernel_rfl) (by kernel_rfl) (fun _ _ _ h => h) (Or.inl ⟨by rfl, ?_⟩) ?_
       rotate_left
       · intro w
         go_simp
         first | done | with_reducible rfl)
  simp only [Act.put, List.getElem_toArray, List.getElem_cons_succ, List.getElem_cons_zero, List.setIfInBounds_toArray, List.set_cons_zero, List.set_cons_succ]
  first
    | (refine wpAny_take (i := 23) (v := undef) rfl (by kernel_rfl) (by kernel_rfl) (by kernel_rfl) (fun _ _ _ h => h) (Or.inr ⟨by rfl, rfl⟩) ?_)
    | (refine wpAny_take (i := 23) (v := ?_) rfl (by kernel_rfl) (by kernel_rfl) (by kernel_rfl) (fun _ _ _ h => h) (Or.inl ⟨by rfl, ?_⟩) ?_
       rotate_left
       · intro w
         go_simp
         first | done | with_reducible rfl)
  simp only [Act.put, List.getElem_toArray, List.getElem_cons_succ, List.getElem_cons_zero, List.setIfInBounds_toArray, List.set_cons_zero, List.set_cons_succ]
  refine wpAny_done (by kernel_rfl) ?_ _
  go_wp2
  go_ret
  exact ⟨by simp, HB4.out⟩

set_option maxRecDepth 100000 in
set_option maxHeartbeats 4000000 in
theorem smpduOne_both (l k : List UInt8) (v u : Value) (hl : l.length ≤ 100) (hk : k.length ≤ 100) (hd : decSE l = 0) (hg : decSE k = 0) (w : World) (hb : BS w w.heap.size v l) (hu : BS w w.heap.size u k) (hT : PTab w) : Calls Tryd.prog 15 #[v, u] w fun e w' => e = .returned (.bool true) ∧ Below w.heap.size w w' := by
  have HT := Lib.hid hT
  have HBS := Lib.hid hb
  have HUS := Lib.hid hu
  obtain ⟨en1, en2⟩ := enc_dec_sec hd
  have hchk : chkS (decS l) = 0 := by unfold decS; rw [if_pos hd]; exact (decSE_ok hd).2.2.2.2
  have C1 := Lib.hid (show ∀ W, Below w.heap.size w W → Calls Tryd.prog 37 #[v] W fun e w' => e = .returned (.tuple #[secV (decS l), .int .i64 0]) ∧ Below W.heap.size W w' from by
    intro W hW
    have h := sdecode_any l v (by omega) W (HBS.out.on hW) (HT.out.keep hW)
    unfold SDecPost at h
    rwa [hd] at h)
  have C2 := Lib.hid (show ∀ w, PTab w → Calls Tryd.prog 35 #[secV (decS l)] w fun e w' => Below w.heap.size w w' ∧ ∃ v, e = .returned (.tuple #[v, .int .i64 0]) ∧ BS w' w'.heap.size v l from
    fun w hT => (sencode_any (decS l) en2 w hT).mono fun e w' hh => by
      obtain ⟨v, h1, h2⟩ := hh.2.1 hchk
      rw [en1] at h2
      exact ⟨hh.1, v, h1, BS.of_own rfl h2⟩)
  have C3 := Lib.hid (show ∀ W, Below w.heap.size w W → Calls Tryd.prog 37 #[u] W fun e w' => e = .returned (.tuple #[secV (decS k), .int .i64 (decSE k)]) ∧ Below W.heap.size W w' from
    fun W hW => sdecode_any k u (by omega) W (HUS.out.on hW) (HT.out.keep hW))
  have hpq : decide (decS l = decS k) = decide (l = k) := by
    have e2 := (enc_dec_sec hg).1
    by_cases h : l = k
    · subst h
      rw [decide_eq_true rfl, decide_eq_true rfl]
    · rw [decide_eq_false h, decide_eq_false]
      intro hh
      exact h (en1.symm.trans ((congrArg encS hh).trans e2))
  rw [hg] at C3
  obtain ⟨A, c, rfl, _⟩ := id hb
  obtain ⟨A', c', rfl, _⟩ := id hu
  clear hb hu hT hd en1 en2 hchk
  generalize decS l = p at *
  generalize decS k = q at *
  clear hg
  have h1' : decide ((100 : Int) < (l.length : Int)) = false := decide_eq_false (by omega)
  go_enter Tryd.func15, Tryd.ntmps15
  go_wp2_with fail
  refine (C1.out _ (Below.refl _ _)).mono ?_
  rintro e w1 ⟨rfl, hb1⟩
  have HB1 := Lib.hid hb1
  clear hb1
  go_wp2_with fail
  refine (C2.out _ (HT.out.keep (HB1.out.alloc HB1.out.size _))).mono ?_
  rintro e w2 ⟨hb2, x, rfl, hx⟩
  have HS2 := Lib.hid ((SecAt.new w1 p 53).keep hb2 (by simp))
  have hz2 := sec_lt HS2.out
  have HB2 := Lib.hid (bthen HB1.out (one hb2))
  have HX2 := Lib.hid hx
  clear hb2 hx
  go_wp2_with fail
  refine (C3.out _ HB2.out).mono ?_
  rintro e w3 ⟨rfl, hb3⟩
  have HS3 := Lib.hid (HS2.out.keep hb3 hz2)
  have HB3 := Lib.hid (bthen HB2.out hb3)
  have HX3 := Lib.hid (HX2.out.on hb3)
  have hz3 := sec_lt HS3.out
  clear hb3
  have hq : ∀ w, (binOp .eql 53 (secV p) (secV q)).run Tryd.prog w = .ok (.bool (decide (l = k))) w := by
    intro w
    rw [run_eql_sec, hpq]
  clear hpq
  have SM1 := Lib.hid (show ∀ (W : World) (a b : Value), BS W W.heap.size a l → BS W W.heap.size b l → Calls Tryd.prog 29 #[a, b] W fun e w' => e = .returned (.bool true) ∧ W = w' by
    intro W a b h1 h2
    have h := same_any a b l l W h1 h2
    rwa [decide_eq_true rfl] at h)
  have SM2 := Lib.hid (show ∀ (W : World) (a b : Value), BS W W.heap.size a l → BS W W.heap.size b k → Calls Tryd.prog 29 #[a, b] W fun e w' => e = .returned (.bool (decide (l = k))) ∧ W = w' from fun W a b h1 h2 => same_any a b l k W h1 h2)
  generalize decide (l = k) = dd at *
  obtain ⟨c0, c1, c2, c3, c4, c5, c6, c7, c8, c9, c10, c11, c12⟩ := HS3.out.cells
  have hz3' : w1.heap.size < w3.heap.size + 1 := by omega
  go_upto_region 8 with fail
  go_region_held3 (fun w' => w'.cell? ⟨w1.heap.size, 0, none⟩ = some (.int .i64 p.kind) ∧ w'.cell? ⟨w1.heap.size, 1, none⟩ = some (.int .i64 p.io) ∧ w'.cell? ⟨w1.heap.size, 2, none⟩ = some (.bool p.oob) ∧ w'.cell? ⟨w1.heap.size, 3, none⟩ = some (.bool p.bond) ∧ w'.cell? ⟨w1.heap.size, 4, none⟩ = some (.bool p.mitm) ∧ w'.cell? ⟨w1.heap.size, 5, none⟩ = some (.bool p.send) ∧ w'.cell? ⟨w1.heap.size, 6, none⟩ = some (.bool p.take) ∧ w'.cell? ⟨w1.heap.size, 7, none⟩ = some (.int .u32 (p.pub : Int)) ∧ w'.cell? ⟨w1.heap.size, 8, none⟩ = some (.int .u64 (p.val : Int)) ∧ w'.cell? ⟨w1.heap.size, 9, none⟩ = some (.int .i64 p.ak) ∧ w'.cell? ⟨w1.heap.size, 10, none⟩ = some (.int .u64 (p.ax : Int)) ∧ w'.cell? ⟨w1.heap.size, 11, none⟩ = some (.int .u64 (p.irk : Int)) ∧ w'.cell? ⟨w1.heap.size, 12, none⟩ = some (.int .i64 p.rsn) ∧ w'.cell? ⟨w3.heap.size, 0, none⟩ = some (.int .i64 q.kind) ∧ w'.cell? ⟨w3.heap.size, 1, none⟩ = some (.int .i64 q.io) ∧ w'.cell? ⟨w3.heap.size, 2, none⟩ = some (.bool q.oob) ∧ w'.cell? ⟨w3.heap.size, 3, none⟩ = some (.bool q.bond) ∧ w'.cell? ⟨w3.heap.size, 4, none⟩ = some (.bool q.mitm) ∧ w'.cell? ⟨w3.heap.size, 5, none⟩ = some (.bool q.send) ∧ w'.cell? ⟨w3.heap.size, 6, none⟩ = some (.bool q.take) ∧ w'.cell? ⟨w3.heap.size, 7, none⟩ = some (.int .u32 (q.pub : Int)) ∧ w'.cell? ⟨w3.heap.size, 8, none⟩ = some (.int .u64 (q.val : Int)) ∧ w'.cell? ⟨w3.heap.size, 9, none⟩ = some (.int .i64 q.ak) ∧ w'.cell? ⟨w3.heap.size, 10, none⟩ = some (.int .u64 (q.ax : Int)) ∧ w'.cell? ⟨w3.heap.size, 11, none⟩ = some (.int .u64 (q.irk : Int)) ∧ w'.cell? ⟨w3.heap.size, 12, none⟩ = some (.int .i64 q.rsn)) (go_keep)
    (first
      | (go_at_call 32; refine (lives37 _ ?_).mono ?_; exact (HT.out.keep ((HB3.out.alloc HB3.out.size _).drew)); rintro e w4 ⟨rfl, hb4⟩; have hc4 := bfar (w3.heap.size + 1) hb4 (by simp); have hz4 : w3.heap.size + 1 ≤ w4.heap.size := (by have := hb4.size; simp at this; omega))
      | (go_at_call 29; refine (SM1.out _ _ _ (HX3.out.on (one_drew hb4)) (HBS.out.on (bthen HB3.out (one_drew hb4)))).mono ?_; rintro e w5 ⟨rfl, rfl⟩)
      | (go_at_call 29; refine (SM2.out _ _ _ (HBS.out.on (bthen HB3.out (one_drew hb4))) (HUS.out.on (bthen HB3.out (one_drew hb4)))).mono ?_; rintro e w6 ⟨rfl, rfl⟩))
  go_wp2
  go_ret
  exact ⟨by simp, bthen HB3.out (one_drew hb4)⟩

theorem smpduOne_walk (l k : List UInt8) (v u : Value) (w : World) (hb : BS w w.heap.size v l) (hu : BS w w.heap.size u k) (hT : PTab w) : Calls Tryd.prog 15 #[v, u] w fun e w' => e = .returned (.bool true) ∧ Below w.heap.size w w' := by
  by_cases h : 100 < l.length ∨ 100 < k.length
  · exact smpduOne_long l k v u h w hb hu hT
  · by_cases hd : decSE l = 0
    · by_cases hg : decSE k = 0
      · exact smpduOne_both l k v u (by omega) (by omega) hd hg w hb hu hT
      · exact smpduOne_else l k v u (by omega) (by omega) hd hg w hb hu hT
    · exact smpduOne_bad l k v u (by omega) (by omega) hd w hb hu hT
end Go.Proofs.YtpomobeogkfmfaaDoor
