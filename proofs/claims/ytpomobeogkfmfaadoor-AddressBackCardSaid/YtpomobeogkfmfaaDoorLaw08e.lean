/- The walk of the law AddressBack: for every argument it returns true, wherever the tables hold their numbers. -/
import Derived.Test.YtpomobeogkfmfaaDoorLaw08d
namespace Go.Proofs.YtpomobeogkfmfaaDoor
open Go.RowKit

theorem dec_enc {k : Int} {x : Nat} (l : List UInt8) (hc : chkA k x = 0) : decE (encA k x ++ l) = 0 ∧ dcK (encA k x ++ l) = k ∧ dcX (encA k x ++ l) = x ∧ (encA k x ++ l).drop 7 = l := by
  obtain ⟨h1, h4, hx⟩ := chk_ok hc
  have e1 : dcK (encA k x ++ l) = k := by
    show ((UInt8.ofNat k.toNat).toNat : Int) = k
    rw [UInt8.toNat_ofNat']
    omega
  have e2 : dcX (encA k x ++ l) = x := by
    show leVal ((le 6 x ++ l).take 6) = x
    rw [List.take_append_of_le_length (by rw [le_length]; omega), List.take_of_length_le (by rw [le_length]; omega), leVal_leD]
    exact Nat.mod_eq_of_lt hx
  have e3 : (encA k x ++ l).drop 7 = l := by
    rw [List.drop_append_of_le_length (by rw [encA_length]; omega), List.drop_eq_nil_of_le (by rw [encA_length]; omega), List.nil_append]
  refine ⟨?_, e1, e2, e3⟩
  unfold decE
  rw [if_neg (by rw [List.length_append, encA_length]; omega), e1, e2]
  exact hc

set_option maxRecDepth 100000 in
set_option maxHeartbeats 4000000 in
theorem addressBack_none (k : Int) (x : Nat) (hx : x < 18446744073709551616) (h : ¬ (1 ≤ k ∧ k ≤ 4)) (v : Value) (w : World) (hT : ATab w) : Calls Tryd.prog 10 #[.int .i64 k, .int .u64 (x : Int), v] w fun e w' => e = .returned (.bool true) ∧ Below w.heap.size w w' := by
  have HT := Lib.hid hT
  obtain ⟨e1, e2⟩ := rnd_none x h
  have C := Lib.hid (show Calls Tryd.prog 19 #[.int .i64 k, .int .u64 (x : Int)] w fun e w' => e = .returned (adr 0 0) ∧ Below w.heap.size w w' by
    have := random_any k x hx w hT
    rwa [e1, e2] at this)
  have K := Lib.hid (show ∀ w : World, ATab w → Calls Tryd.prog 17 #[adr 0 0] w fun e w' => e = .returned (.int .i64 12) ∧ Below w.heap.size w w' from fun w hT => check_any 0 0 w hT)
  clear hT e1 e2 h
  go_enter Tryd.func10, Tryd.ntmps10
  go_wp2_with fail
  refine C.out.mono ?_
  rintro e w1 ⟨rfl, hb1⟩
  have HB1 := Lib.hid hb1
  clear hb1
  go_wp2_with fail
  refine (K.out _ (HT.out.keep (HB1.out.alloc HB1.out.size _))).mono ?_
  rintro e w2 ⟨rfl, hb2⟩
  have HB2 := Lib.hid (bthen HB1.out (one hb2))
  clear hb2
  go_wp2_with fail
  refine (lives08 _ (HT.out.keep HB2.out)).mono ?_
  rintro e w3 ⟨rfl, hb3⟩
  go_wp2
  go_ret
  exact ⟨rfl, bthen HB2.out hb3⟩

set_option maxRecDepth 100000 in
set_option maxHeartbeats 4000000 in
theorem addressBack_some (k : Int) (x : Nat) (hx : x < 18446744073709551616) (h : 1 ≤ k ∧ k ≤ 4) (l : List UInt8) (v : Value) (w : World) (hb : BS w w.heap.size v l) (hl : l.length ≤ 140737488355328) (hT : ATab w) :
    Calls Tryd.prog 10 #[.int .i64 k, .int .u64 (x : Int), v] w fun e w' => e = .returned (.bool true) ∧ Below w.heap.size w w' := by
  have HT := Lib.hid hT
  obtain ⟨e1, e2⟩ := chk_rnd x h.1 h.2
  have C := Lib.hid (show Calls Tryd.prog 19 #[.int .i64 k, .int .u64 (x : Int)] w fun e w' => e = .returned (adr k (rndX k x)) ∧ Below w.heap.size w w' by
    have := random_any k x hx w hT
    rwa [e1] at this)
  have K := Lib.hid (show ∀ w : World, ATab w → Calls Tryd.prog 17 #[adr k (rndX k x)] w fun e w' => e = .returned (.int .i64 0) ∧ Below w.heap.size w w' by
    intro w hT
    have := check_any k (rndX k x) w hT
    rwa [e2] at this)
  have hy : rndX k x < 281474976710656 := (chk_ok e2).2.2
  generalize rndX k x = y at *
  obtain ⟨d1, d2, d3, d4⟩ := dec_enc l e2
  have N := Lib.hid (show ∀ W : World, ATab W → Calls Tryd.prog 27 #[adr k y] W fun e w' => Below W.heap.size W w' ∧ ∃ u, e = .returned (.tuple #[u, .int .i64 0]) ∧ w'.ownsRow W.heap.size 5 1 u 7 (bys (encA k y)) by
    intro W hT
    exact (encode_any k y W hT).mono fun e w' hh => ⟨hh.1, hh.2.1 e2⟩)
  have hel := encA_length k y
  have D := Lib.hid (show l.length ≤ 200 → ∀ (W : World) (u : Value), ATab W → BS W W.heap.size u (encA k y ++ l) → Calls Tryd.prog 30 #[u] W fun e w' => Below W.heap.size W w' ∧ ∃ u', e = .returned (.tuple #[adr k y, u', .int .i64 0]) ∧ BS w' w'.heap.size u' l by
    intro hl2 W u hT hu
    refine (decode_any _ u (by rw [List.length_append, hel]; omega) W hu hT).mono fun e w' hh => ?_
    obtain ⟨hB, h1, _⟩ := hh
    obtain ⟨u', he, ho⟩ := h1 d1
    rw [d4, show (encA k y ++ l).length - 7 = l.length by rw [List.length_append, hel]; omega] at ho
    rw [d2, d3] at he
    exact ⟨hB, u', he, BS.of_own rfl ho⟩)
  obtain ⟨q1, q2, q3⟩ := parse_txt e2
  have X := Lib.hid (text_any k y (by omega))
  have R := Lib.hid (show ∀ W : World, ATab W → Calls Tryd.prog 23 #[.string ⟨(txtS k y).toArray⟩] W fun e w' => e = .returned (.tuple #[adr k y, .int .i64 0]) ∧ Below W.heap.size W w' by
    intro W hT
    refine (parse_any ⟨(txtS k y).toArray⟩ W hT).mono fun e w' hh => ⟨?_, hh.2⟩
    have h := hh.1
    rwa [show ((⟨(txtS k y).toArray⟩ : ByteArray)).data.toList = txtS k y from rfl, q1, q2, q3] at h)
  have HEL := Lib.hid hel
  have HB0 := Lib.hid hb
  clear hT e1 e2 d1 d2 d3 d4 q1 q2 q3 h hx hy hel
  generalize encA k y = z at *
  generalize txtS k y = t at *
  obtain ⟨A, c, rfl, _⟩ := id hb
  clear hb
  by_cases h200 : 200 < l.length
  · go_enter Tryd.func10, Tryd.ntmps10
    go_wp2_with fail
    refine C.out.mono ?_
    rintro e w1 ⟨rfl, hb1⟩
    have HB1 := Lib.hid hb1
    clear hb1
    go_wp2_with fail
    refine (K.out _ (HT.out.keep (HB1.out.alloc HB1.out.size _))).mono ?_
    rintro e w2 ⟨rfl, hb2⟩
    have HB2 := Lib.hid (bthen HB1.out (one hb2))
    clear hb2
    go_wp2_with fail
    refine (lives08 _ (HT.out.keep HB2.out)).mono ?_
    rintro e w3 ⟨rfl, hb3⟩
    go_wp2
    go_ret
    exact ⟨rfl, bthen HB2.out hb3⟩
  · have h200' : decide ((200 : Int) < (l.length : Int)) = false := decide_eq_false (by omega)
    have hl2 : l.length ≤ 200 := by omega
    go_enter Tryd.func10, Tryd.ntmps10
    go_wp2_with fail
    refine C.out.mono ?_
    rintro e w1 ⟨rfl, hb1⟩
    have HB1 := Lib.hid hb1
    clear hb1
    go_wp2_with fail
    refine (K.out _ (HT.out.keep (HB1.out.alloc HB1.out.size _))).mono ?_
    rintro e w2 ⟨rfl, hb2⟩
    have hc2 := bfar (w1.heap.size + 1) hb2 (by simp)
    have a0 : w2.cell? ⟨w1.heap.size, 0, none⟩ = some (.int .i64 k) := by rw [hc2 w1.heap.size 0 (by omega)]; simp [go_sem]
    have a1 : w2.cell? ⟨w1.heap.size, 1, none⟩ = some (.int .u64 (y : Int)) := by rw [hc2 w1.heap.size 1 (by omega)]; simp [go_sem]
    have hz2 : w1.heap.size < w2.heap.size := sz1 hb2
    have HB2 := Lib.hid (bthen HB1.out (one hb2))
    clear hb2 hc2
    go_wp2_with fail
    refine (N.out _ (HT.out.keep HB2.out)).mono ?_
    rintro e w3 ⟨hb3, u3, rfl, hu3⟩
    have hc3 := bfar (w1.heap.size + 1) hb3 (by omega)
    have a0' : w3.cell? ⟨w1.heap.size, 0, none⟩ = some (.int .i64 k) := by rw [hc3 w1.heap.size 0 (by omega)]; exact a0
    have a1' : w3.cell? ⟨w1.heap.size, 1, none⟩ = some (.int .u64 (y : Int)) := by rw [hc3 w1.heap.size 1 (by omega)]; exact a1
    have hz3 : w1.heap.size < w3.heap.size := by have := hb3.size; omega
    have HB3 := Lib.hid (bthen HB2.out hb3)
    obtain ⟨g, cu, rfl⟩ : ∃ g c, u3 = .slice (some ⟨g, 0, none⟩) 7 c := by
      rcases hu3.2 with ⟨e1, e2⟩ | ⟨g, cap, cur, e, _⟩
      · cases e2
      · exact ⟨g, cap, e⟩
    have HU3 := Lib.hid hu3
    have hg := (hu3.lt g rfl).1
    have A0 := Lib.hid a0'
    have A1 := Lib.hid a1'
    clear hb3 hc3 a0 a1 a0' a1' hu3
    go_wp2_with (first
      | (at_builtin
         refine app_sl _ elB rfl (.tmp 33) (.tmp 34) rfl rfl HU3.out rfl (HB0.out.on HB3.out) ?_ ?_ ?_ ?_
         (case refine_1 => exact bys_one _)
         (case refine_2 => omega)
         (case refine_3 => have := (HU3.out.lt g rfl).2; omega)
         intro v4 w4 hown4 hg4 hnil4 hat4))
    have hb4 : Below w2.heap.size w3 w4 := below_app (Below.refl _ _) HU3.out hg4 (Nat.le_refl _) (by have := (HU3.out.lt g rfl).2; omega)
    have HB4 := Lib.hid (HB3.out.trans (hb4.mono (by have := HB2.out.size; omega)))
    have b0 : w4.cell? ⟨w1.heap.size, 0, none⟩ = some (.int .i64 k) := by rw [hb4.cell (p := ⟨w1.heap.size, 0, none⟩) hz2]; exact A0.out
    have b1 : w4.cell? ⟨w1.heap.size, 1, none⟩ = some (.int .u64 (y : Int)) := by rw [hb4.cell (p := ⟨w1.heap.size, 1, none⟩) hz2]; exact A1.out
    have hz4 : w1.heap.size < w4.heap.size := by have := hb4.size; omega
    rw [← bys_append] at hown4
    have hbs : BS w4 w4.heap.size v4 (z ++ l) := BS.of_own (by rw [List.length_append, HEL.out]) hown4
    refine (D.out hl2 _ _ (HT.out.keep HB4.out) hbs).mono ?_
    rintro e w5 ⟨hb5, u5, rfl, hu5⟩
    have hc5 := bfar (w1.heap.size + 1) hb5 (by omega)
    have c0 : w5.cell? ⟨w1.heap.size, 0, none⟩ = some (.int .i64 k) := by rw [hc5 w1.heap.size 0 (by omega)]; exact b0
    have c1 : w5.cell? ⟨w1.heap.size, 1, none⟩ = some (.int .u64 (y : Int)) := by rw [hc5 w1.heap.size 1 (by omega)]; exact b1
    have hz5 : w1.heap.size < w5.heap.size := by have := hb5.size; omega
    have HB5 := Lib.hid (bthen HB4.out hb5)
    have HU5 := Lib.hid hu5
    clear hb4 hown4 hg4 hnil4 hat4 hbs hb5 hc5 b0 b1 hu5
    go_wp2_with fail
    refine (X.out _ (HT.out.keep (HB5.out.alloc HB5.out.size _))).mono ?_
    rintro e w6 ⟨rfl, hb6⟩
    have hc6 := bfar (w5.heap.size + 1) hb6 (by simp)
    have HB6 := Lib.hid (bthen HB5.out (one hb6))
    have HB56 := Lib.hid (one hb6)
    have hz6 := sz1 hb6
    have d0 : w6.cell? ⟨w1.heap.size, 0, none⟩ = some (.int .i64 k) := by rw [hc6 w1.heap.size 0 (by omega)]; simp [go_sem, c0, hz5]
    have d1 : w6.cell? ⟨w1.heap.size, 1, none⟩ = some (.int .u64 (y : Int)) := by rw [hc6 w1.heap.size 1 (by omega)]; simp [go_sem, c1, hz5]
    have d2 : w6.cell? ⟨w5.heap.size, 0, none⟩ = some (.int .i64 k) := by rw [hc6 w5.heap.size 0 (by omega)]; simp [go_sem]
    have d3 : w6.cell? ⟨w5.heap.size, 1, none⟩ = some (.int .u64 (y : Int)) := by rw [hc6 w5.heap.size 1 (by omega)]; simp [go_sem]
    clear hb6 hc6 c0 c1
    go_wp2_with fail
    refine (R.out _ (HT.out.keep HB6.out)).mono ?_
    rintro e w7 ⟨rfl, hb7⟩
    have hc7 := bfar (w5.heap.size + 1) hb7 (by omega)
    have HB7 := Lib.hid (bthen HB6.out hb7)
    have HB57 := Lib.hid (bthen HB56.out hb7)
    have hz7 : w5.heap.size < w7.heap.size := by have := hb7.size; omega
    have f0 : w7.cell? ⟨w1.heap.size, 0, none⟩ = some (.int .i64 k) := by rw [hc7 w1.heap.size 0 (by omega)]; exact d0
    have f1 : w7.cell? ⟨w1.heap.size, 1, none⟩ = some (.int .u64 (y : Int)) := by rw [hc7 w1.heap.size 1 (by omega)]; exact d1
    have f2 : w7.cell? ⟨w5.heap.size, 0, none⟩ = some (.int .i64 k) := by rw [hc7 w5.heap.size 0 (by omega)]; exact d2
    have f3 : w7.cell? ⟨w5.heap.size, 1, none⟩ = some (.int .u64 (y : Int)) := by rw [hc7 w5.heap.size 1 (by omega)]; exact d3
    have hz71 : w1.heap.size < w7.heap.size := by omega
    clear hb7 hc7 d0 d1 d2 d3
    go_wp2_with fail
    refine (lives08 _ (HT.out.keep (HB7.out.alloc HB7.out.size _))).mono ?_
    rintro e w8 ⟨rfl, hb8⟩
    have hc8 := bfar (w7.heap.size + 1) hb8 (by simp)
    have HB8 := Lib.hid (bthen HB7.out (one hb8))
    have HB58 := Lib.hid (bthen HB57.out (one hb8))
    have g0 : w8.cell? ⟨w1.heap.size, 0, none⟩ = some (.int .i64 k) := by rw [hc8 w1.heap.size 0 (by omega)]; simp [go_sem, f0, hz71]
    have g1 : w8.cell? ⟨w1.heap.size, 1, none⟩ = some (.int .u64 (y : Int)) := by rw [hc8 w1.heap.size 1 (by omega)]; simp [go_sem, f1, hz71]
    have g2 : w8.cell? ⟨w5.heap.size, 0, none⟩ = some (.int .i64 k) := by rw [hc8 w5.heap.size 0 (by omega)]; simp [go_sem, f2, hz7]
    have g3 : w8.cell? ⟨w5.heap.size, 1, none⟩ = some (.int .u64 (y : Int)) := by rw [hc8 w5.heap.size 1 (by omega)]; simp [go_sem, f3, hz7]
    have g4 : w8.cell? ⟨w7.heap.size, 0, none⟩ = some (.int .i64 k) := by rw [hc8 w7.heap.size 0 (by omega)]; simp [go_sem]
    have g5 : w8.cell? ⟨w7.heap.size, 1, none⟩ = some (.int .u64 (y : Int)) := by rw [hc8 w7.heap.size 1 (by omega)]; simp [go_sem]
    clear hb8 hc8 f0 f1 f2 f3
    go_wp2_with fail
    refine (same_any _ _ l l _ (HU5.out.on HB58.out) (HB0.out.on HB8.out)).mono ?_
    rintro e w9 ⟨rfl, rfl⟩
    rw [decide_eq_true rfl]
    go_wp2
    go_ret
    exact ⟨by simp, HB8.out⟩

theorem addressBack_walk (k : Int) (x : Nat) (hx : x < 18446744073709551616) (l : List UInt8) (v : Value) (w : World) (hb : BS w w.heap.size v l) (hl : l.length ≤ 140737488355328) (hT : ATab w) :
    Calls Tryd.prog 10 #[.int .i64 k, .int .u64 (x : Int), v] w fun e w' => e = .returned (.bool true) ∧ Below w.heap.size w w' := by
  by_cases h : 1 ≤ k ∧ k ≤ 4
  · exact addressBack_some k x hx h l v w hb hl hT
  · exact addressBack_none k x hx h v w hT
end Go.Proofs.YtpomobeogkfmfaaDoor
