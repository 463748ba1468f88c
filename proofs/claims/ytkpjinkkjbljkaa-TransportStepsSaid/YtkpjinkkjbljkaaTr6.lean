/- Walks of package transport: Encode. No condition. -/
import Derived.Test.YtkpjinkkjbljkaaTr5
namespace Go.Proofs.Ytkpjinkkjbljkaa
open Go.RowKit

set_option maxRecDepth 100000 in
set_option maxHeartbeats 4000000 in
theorem tencode_A (s a : Bool) (z : Nat) (i l : Int) (b : Nat) (f : Bool) (bl : List UInt8) (A : Option Addr) (c : Nat) (hc : chkL ⟨true, s, a, z, i, l, 0, b, f⟩ bl.length = 0) (hz : z ≤ 8191) (hbk : b < 4294967296) (w : World) (hb : BS w w.heap.size (.slice A bl.length c) bl) (hl : bl.length ≤ 15) : Calls Try.prog 16 #[lowC true s a z i l 0 b f (.slice A bl.length c)] w fun e w' => Below w.heap.size w w' ∧ ∃ v, e = .returned (.tuple #[v, .int .i64 0]) ∧ w'.ownsRow w.heap.size 5 1 v (fieldB [(1, 0), (2, z + fl f 8192), (4, b)] ++ bl).length (bys (fieldB [(1, 0), (2, z + fl f 8192), (4, b)] ++ bl)) := by
  have HB0 := Lib.hid hb
  clear hb
  have C := Lib.hid (tcheck_any ⟨true, s, a, z, i, l, 0, b, f⟩ A bl.length c)
  rw [hc] at C
  have CA := Lib.hid (isAck_any ⟨true, s, a, z, i, l, 0, b, f⟩ (.slice A bl.length c))
  have HI := Lib.hid (show isA ⟨true, s, a, z, i, l, 0, b, f⟩ = true from rfl)
  have CF := Lib.hid (flag_any f 8192)
  have hg : fl f 8192 ≤ 8192 := by unfold fl; split <;> omega
  generalize fl f 8192 = g at *
  have hwr := wr64 (show z ≤ 18446744073709551615 by omega)
  have hwb := wr64 (show b ≤ 18446744073709551615 by omega)
  obtain ⟨x, hx⟩ : ∃ x, x = z + g := ⟨_, rfl⟩
  have hwx : IntKind.u64.wrap ((z : Int) + (g : Int)) = (x : Int) := by rw [hx, ← Int.natCast_add]; exact wr64 (by omega)
  rw [← hx]
  have HQ := Lib.hid (show (∀ f ∈ ([(1, 0), (2, x), (4, b)] : List (Int × Nat)), fok f = true) ∧ (∀ f ∈ ([(1, 0), (2, x), (4, b)] : List (Int × Nat)), f.2 < 2 ^ 64) ∧ (fieldB [(1, 0), (2, x), (4, b)]).length ≤ 7 by
    refine ⟨?_, ?_, by simp [fieldB, le_length]⟩
    · intro f hf; simp at hf; rcases hf with rfl | rfl | rfl <;> (unfold fok; rw [decide_eq_true]; simp; try omega)
    · intro f hf; simp at hf; rcases hf with rfl | rfl | rfl <;> simp <;> omega)
  clear hx hg
  generalize hnn : bl.length = n at *
  have HN := Lib.hid hnn
  clear hnn hc
  go_enter Try.func16, Try.ntmps16
  go_wp2_with fail
  refine (C.out _).mono ?_
  rintro e w1 ⟨rfl, hb1⟩
  have hbx := (low_new w ⟨true, s, a, z, i, l, 0, b, f⟩ (.slice A n c) 25).on hb1
  have hz1 := hbx.lt
  obtain ⟨e0, e1, e2, e3, e4, e5, e6, e7, e8, e9⟩ := low_box hbx
  have HX1 := Lib.hid hbx
  have HB1 := Lib.hid (one hb1)
  clear hb1 C hbx
  go_wp2_with fail
  refine (CA.out _).mono ?_
  rintro e w2 ⟨rfl, hb2⟩
  rw [HI.out]
  clear e0 e1 e2 e3 e4 e5 e6 e7 e8 e9
  have hbx := HX1.out.on hb2
  have hz2 := hbx.lt
  obtain ⟨e0, e1, e2, e3, e4, e5, e6, e7, e8, e9⟩ := low_box hbx
  have HX2 := Lib.hid hbx
  have HB2 := Lib.hid (bthen HB1.out hb2)
  clear hb2 CA hbx HX1 HB1
  go_wp2_with fail
  go_region_held3 (fun w' => w'.cell? ⟨w.heap.size, 3, none⟩ = some (.int .i64 (z : Int)) ∧ w'.cell? ⟨w.heap.size, 7, none⟩ = some (.int .u32 (b : Int)) ∧ w'.cell? ⟨w.heap.size, 8, none⟩ = some (.bool f)) (go_keep)
    (first | (go_at_call 33; refine (CF.out _).mono ?_; rintro e w3 ⟨rfl, rfl⟩))
  have hb3 : Below w2.heap.size w2 (w2.alloc (.cells #[.int .i64 1, .int .u64 0, .int .i64 2, .int .u64 (x : Int), .int .i64 4, .int .u64 (b : Int)] 80)).drew := (al1 _ _).drew
  have hbx := HX2.out.on hb3
  have HX3 := Lib.hid hbx
  have HB3 := Lib.hid (bthen HB2.out hb3)
  have HS3 := Lib.hid ((Sl.lit (size := 2) w2 #[.int .i64 1, .int .u64 0, .int .i64 2, .int .u64 (x : Int), .int .i64 4, .int .u64 (b : Int)] 80 3 rfl (by simp [maxLen])).drew)
  clear hb3 hbx HX2 e0 e1 e2 e3 e4 e5 e6 e7 e8 e9
  go_wp2_with fail
  refine (tput_v _ [(1, 0), (2, x), (4, b)] HQ.out.2.1 (by simp) (HS3.out.more (by simp))).mono ?_
  rintro e w4 ⟨hb4, hm⟩
  rw [putS_ok _ HQ.out.1] at hm
  obtain ⟨v, rfl, hown⟩ := hm
  have hbx := HX3.out.keep hb4 (by simp; omega)
  have hz4 := hbx.lt
  have e9 : w4.cell? ⟨w.heap.size, 9, none⟩ = some (.slice A n c) := hbx.cell (j := 9) rfl
  have hv4 := BS.of_own rfl hown
  obtain ⟨A4, c4, rfl, _⟩ := id hv4
  have HV4 := Lib.hid hv4
  have HB4 := Lib.hid (bthen HB3.out hb4)
  have HLL := Lib.hid (show (fieldB [(1, 0), (2, x), (4, b)]).length + bl.length ≤ 140737488355328 by have := HQ.out.2.2; have := HN.out; omega)
  clear hb4 hbx hown hv4 HX3 HS3
  go_wp2_with fail
  refine (join2 _ (.slice A n c) (fieldB [(1, 0), (2, x), (4, b)]) bl _ HV4.out (by have h := HB0.out.on HB4.out; exact h) HLL.out _).mono ?_
  rintro e w5 ⟨hb5, x, rfl, hx⟩
  go_wp2_with fail
  go_ret2
  exact ⟨bthen HB4.out hb5, x, rfl, own_base hx HB4.out.size⟩

set_option maxRecDepth 100000 in
set_option maxHeartbeats 4000000 in
theorem tencode_C (s a : Bool) (z i l : Int) (o : Nat) (b : Nat) (f : Bool) (bl : List UInt8) (A : Option Addr) (c : Nat) (hc : chkL ⟨true, s, a, z, i, l, o, b, f⟩ bl.length = 0) (h3 : isA ⟨true, s, a, z, i, l, o, b, f⟩ = false) (ho : o ≤ 8) (w : World) (hb : BS w w.heap.size (.slice A bl.length c) bl) (hl : bl.length ≤ 15) : Calls Try.prog 16 #[lowC true s a z i l o b f (.slice A bl.length c)] w fun e w' => Below w.heap.size w w' ∧ ∃ v, e = .returned (.tuple #[v, .int .i64 0]) ∧ w'.ownsRow w.heap.size 5 1 v (fieldB [(1, o)] ++ bl).length (bys (fieldB [(1, o)] ++ bl)) := by
  have HB0 := Lib.hid hb
  clear hb
  have C := Lib.hid (tcheck_any ⟨true, s, a, z, i, l, o, b, f⟩ A bl.length c)
  rw [hc] at C
  have CA := Lib.hid (isAck_any ⟨true, s, a, z, i, l, o, b, f⟩ (.slice A bl.length c))
  have HI := Lib.hid (show isA ⟨true, s, a, z, i, l, o, b, f⟩ = false from h3)
  have hwr := wr64 (show o ≤ 18446744073709551615 by omega)
  have HQ := Lib.hid (show (∀ f ∈ ([(1, o)] : List (Int × Nat)), fok f = true) ∧ (∀ f ∈ ([(1, o)] : List (Int × Nat)), f.2 < 2 ^ 64) ∧ (fieldB [(1, o)]).length ≤ 7 by
    refine ⟨?_, ?_, by simp [fieldB, le_length]⟩
    · intro f hf; simp at hf; rcases hf with rfl; (unfold fok; rw [decide_eq_true]; simp; try omega)
    · intro f hf; simp at hf; rcases hf with rfl; simp; omega)
  clear h3
  generalize hnn : bl.length = n at *
  have HN := Lib.hid hnn
  clear hnn hc
  go_enter Try.func16, Try.ntmps16
  go_wp2_with fail
  refine (C.out _).mono ?_
  rintro e w1 ⟨rfl, hb1⟩
  have hbx := (low_new w ⟨true, s, a, z, i, l, o, b, f⟩ (.slice A n c) 25).on hb1
  have hz1 := hbx.lt
  obtain ⟨e0, e1, e2, e3, e4, e5, e6, e7, e8, e9⟩ := low_box hbx
  have HX1 := Lib.hid hbx
  have HB1 := Lib.hid (one hb1)
  clear hb1 C hbx
  go_wp2_with fail
  refine (CA.out _).mono ?_
  rintro e w2 ⟨rfl, hb2⟩
  rw [HI.out]
  clear e0 e1 e2 e3 e4 e5 e6 e7 e8 e9
  have hbx := HX1.out.on hb2
  have hz2 := hbx.lt
  obtain ⟨e0, e1, e2, e3, e4, e5, e6, e7, e8, e9⟩ := low_box hbx
  have HX2 := Lib.hid hbx
  have HB2 := Lib.hid (bthen HB1.out hb2)
  clear hb2 CA hbx HX1 HB1
  go_wp2_with fail
  have hb3 : Below w2.heap.size w2 (w2.alloc (.cells #[.int .i64 1, .int .u64 (o : Int)] 80)) := (al1 _ _)
  have hbx := HX2.out.on hb3
  have HX3 := Lib.hid hbx
  have HB3 := Lib.hid (bthen HB2.out hb3)
  have HS3 := Lib.hid ((Sl.lit (size := 2) w2 #[.int .i64 1, .int .u64 (o : Int)] 80 1 rfl (by simp [maxLen])))
  clear hb3 hbx HX2 e0 e1 e2 e3 e4 e5 e6 e7 e8 e9
  go_wp2_with fail
  refine (tput_v _ [(1, o)] HQ.out.2.1 (by simp) (HS3.out.more (by simp))).mono ?_
  rintro e w4 ⟨hb4, hm⟩
  rw [putS_ok _ HQ.out.1] at hm
  obtain ⟨v, rfl, hown⟩ := hm
  have hbx := HX3.out.keep hb4 (by simp; omega)
  have hz4 := hbx.lt
  have e9 : w4.cell? ⟨w.heap.size, 9, none⟩ = some (.slice A n c) := hbx.cell (j := 9) rfl
  have hv4 := BS.of_own rfl hown
  obtain ⟨A4, c4, rfl, _⟩ := id hv4
  have HV4 := Lib.hid hv4
  have HB4 := Lib.hid (bthen HB3.out hb4)
  have HLL := Lib.hid (show (fieldB [(1, o)]).length + bl.length ≤ 140737488355328 by have := HQ.out.2.2; have := HN.out; omega)
  clear hb4 hbx hown hv4 HX3 HS3
  go_wp2_with fail
  refine (join2 _ (.slice A n c) (fieldB [(1, o)]) bl _ HV4.out (by have h := HB0.out.on HB4.out; exact h) HLL.out _).mono ?_
  rintro e w5 ⟨hb5, x, rfl, hx⟩
  go_wp2_with fail
  go_ret2
  exact ⟨bthen HB4.out hb5, x, rfl, own_base hx HB4.out.size⟩

set_option maxRecDepth 100000 in
set_option maxHeartbeats 4000000 in
theorem tencode_S (a : Bool) (z i l : Nat) (o : Int) (b : Nat) (f : Bool) (bl : List UInt8) (A : Option Addr) (c : Nat) (hc : chkL ⟨false, true, a, z, i, l, o, b, f⟩ bl.length = 0) (hz : z ≤ 8191) (hi : i ≤ 31) (hla : l ≤ 31) (w : World) (hb : BS w w.heap.size (.slice A bl.length c) bl) (hl : bl.length ≤ 15) : Calls Try.prog 16 #[lowC false true a z i l o b f (.slice A bl.length c)] w fun e w' => Below w.heap.size w w' ∧ ∃ v, e = .returned (.tuple #[v, .int .i64 0]) ∧ w'.ownsRow w.heap.size 5 1 v (fieldB [(1, 128 + fl a 64), (3, z + i * 8192 + l * 262144)] ++ bl).length (bys (fieldB [(1, 128 + fl a 64), (3, z + i * 8192 + l * 262144)] ++ bl)) := by
  have HB0 := Lib.hid hb
  clear hb
  have C := Lib.hid (tcheck_any ⟨false, true, a, z, i, l, o, b, f⟩ A bl.length c)
  rw [hc] at C
  have CA := Lib.hid (isAck_any ⟨false, true, a, z, i, l, o, b, f⟩ (.slice A bl.length c))
  have HI := Lib.hid (show isA ⟨false, true, a, z, i, l, o, b, f⟩ = false from rfl)
  have CF := Lib.hid (flag_any a 64)
  have hg : fl a 64 ≤ 64 := by unfold fl; split <;> omega
  generalize fl a 64 = g at *
  obtain ⟨y, hy⟩ : ∃ y, y = 128 + g := ⟨_, rfl⟩
  have hwy : IntKind.u64.wrap (128 + (g : Int)) = (y : Int) := by rw [hy]; have := wr64 (show 128 + g ≤ 18446744073709551615 by omega); simpa using this
  obtain ⟨x, hx⟩ : ∃ x, x = z + i * 8192 + l * 262144 := ⟨_, rfl⟩
  have hwx := wr64 (show x ≤ 18446744073709551615 by omega)
  rw [← hx, ← hy]
  have HX := Lib.hid (show (z : Int) + (i : Int) * 8192 + (l : Int) * 8192 * 32 = (x : Int) by omega)
  have HQ := Lib.hid (show (∀ f ∈ ([(1, y), (3, x)] : List (Int × Nat)), fok f = true) ∧ (∀ f ∈ ([(1, y), (3, x)] : List (Int × Nat)), f.2 < 2 ^ 64) ∧ (fieldB [(1, y), (3, x)]).length ≤ 7 by
    refine ⟨?_, ?_, by simp [fieldB, le_length]⟩
    · intro f hf; simp at hf; rcases hf with rfl | rfl <;> (unfold fok; rw [decide_eq_true]; simp; try omega)
    · intro f hf; simp at hf; rcases hf with rfl | rfl <;> simp <;> omega)
  clear hx hy
  generalize hnn : bl.length = n at *
  have HN := Lib.hid hnn
  clear hnn hc
  go_enter Try.func16, Try.ntmps16
  go_wp2_with fail
  refine (C.out _).mono ?_
  rintro e w1 ⟨rfl, hb1⟩
  have hbx := (low_new w ⟨false, true, a, z, i, l, o, b, f⟩ (.slice A n c) 25).on hb1
  have hz1 := hbx.lt
  obtain ⟨e0, e1, e2, e3, e4, e5, e6, e7, e8, e9⟩ := low_box hbx
  have HX1 := Lib.hid hbx
  have HB1 := Lib.hid (one hb1)
  clear hb1 C hbx
  go_wp2_with fail
  refine (CA.out _).mono ?_
  rintro e w2 ⟨rfl, hb2⟩
  rw [HI.out]
  clear e0 e1 e2 e3 e4 e5 e6 e7 e8 e9
  have hbx := HX1.out.on hb2
  have hz2 := hbx.lt
  obtain ⟨e0, e1, e2, e3, e4, e5, e6, e7, e8, e9⟩ := low_box hbx
  have HX2 := Lib.hid hbx
  have HB2 := Lib.hid (bthen HB1.out hb2)
  clear hb2 CA hbx HX1 HB1
  go_wp2_with fail
  go_region_held3 (fun w' => w'.cell? ⟨w.heap.size, 2, none⟩ = some (.bool a) ∧ w'.cell? ⟨w.heap.size, 3, none⟩ = some (.int .i64 (z : Int)) ∧ w'.cell? ⟨w.heap.size, 4, none⟩ = some (.int .i64 (i : Int)) ∧ w'.cell? ⟨w.heap.size, 5, none⟩ = some (.int .i64 (l : Int))) (go_keep)
    (first | (go_at_call 33; refine (CF.out _).mono ?_; rintro e w3 ⟨rfl, rfl⟩))
  have hb3 : Below w2.heap.size w2 (w2.alloc (.cells #[.int .i64 1, .int .u64 (y : Int), .int .i64 3, .int .u64 (x : Int)] 80)).drew := (al1 _ _).drew
  have hbx := HX2.out.on hb3
  have HX3 := Lib.hid hbx
  have HB3 := Lib.hid (bthen HB2.out hb3)
  have HS3 := Lib.hid ((Sl.lit (size := 2) w2 #[.int .i64 1, .int .u64 (y : Int), .int .i64 3, .int .u64 (x : Int)] 80 2 rfl (by simp [maxLen])).drew)
  clear hb3 hbx HX2 e0 e1 e2 e3 e4 e5 e6 e7 e8 e9
  go_wp2_with fail
  simp only [HX.out]
  refine (tput_v _ [(1, y), (3, x)] HQ.out.2.1 (by simp) (HS3.out.more (by simp))).mono ?_
  rintro e w4 ⟨hb4, hm⟩
  rw [putS_ok _ HQ.out.1] at hm
  obtain ⟨v, rfl, hown⟩ := hm
  have hbx := HX3.out.keep hb4 (by simp; omega)
  have hz4 := hbx.lt
  have e9 : w4.cell? ⟨w.heap.size, 9, none⟩ = some (.slice A n c) := hbx.cell (j := 9) rfl
  have hv4 := BS.of_own rfl hown
  obtain ⟨A4, c4, rfl, _⟩ := id hv4
  have HV4 := Lib.hid hv4
  have HB4 := Lib.hid (bthen HB3.out hb4)
  have HLL := Lib.hid (show (fieldB [(1, y), (3, x)]).length + bl.length ≤ 140737488355328 by have := HQ.out.2.2; have := HN.out; omega)
  clear hb4 hbx hown hv4 HX3 HS3
  go_wp2_with fail
  refine (join2 _ (.slice A n c) (fieldB [(1, y), (3, x)]) bl _ HV4.out (by have h := HB0.out.on HB4.out; exact h) HLL.out _).mono ?_
  rintro e w5 ⟨hb5, x, rfl, hx⟩
  go_wp2_with fail
  go_ret2
  exact ⟨bthen HB4.out hb5, x, rfl, own_base hx HB4.out.size⟩

set_option maxRecDepth 100000 in
set_option maxHeartbeats 4000000 in
theorem tencode_P (a : Bool) (z i l o : Int) (b : Nat) (f : Bool) (bl : List UInt8) (A : Option Addr) (c : Nat) (hc : chkL ⟨false, false, a, z, i, l, o, b, f⟩ bl.length = 0)  (w : World) (hb : BS w w.heap.size (.slice A bl.length c) bl) (hl : bl.length ≤ 15) : Calls Try.prog 16 #[lowC false false a z i l o b f (.slice A bl.length c)] w fun e w' => Below w.heap.size w w' ∧ ∃ v, e = .returned (.tuple #[v, .int .i64 0]) ∧ w'.ownsRow w.heap.size 5 1 v (fieldB [(1, fl a 64)] ++ bl).length (bys (fieldB [(1, fl a 64)] ++ bl)) := by
  have HB0 := Lib.hid hb
  clear hb
  have C := Lib.hid (tcheck_any ⟨false, false, a, z, i, l, o, b, f⟩ A bl.length c)
  rw [hc] at C
  have CA := Lib.hid (isAck_any ⟨false, false, a, z, i, l, o, b, f⟩ (.slice A bl.length c))
  have HI := Lib.hid (show isA ⟨false, false, a, z, i, l, o, b, f⟩ = false from rfl)
  have CF := Lib.hid (flag_any a 64)
  have hg : fl a 64 ≤ 64 := by unfold fl; split <;> omega
  generalize fl a 64 = g at *
  have HQ := Lib.hid (show (∀ f ∈ ([(1, g)] : List (Int × Nat)), fok f = true) ∧ (∀ f ∈ ([(1, g)] : List (Int × Nat)), f.2 < 2 ^ 64) ∧ (fieldB [(1, g)]).length ≤ 7 by
    refine ⟨?_, ?_, by simp [fieldB, le_length]⟩
    · intro f hf; simp at hf; rcases hf with rfl; (unfold fok; rw [decide_eq_true]; simp; try omega)
    · intro f hf; simp at hf; rcases hf with rfl; simp; omega)
  generalize hnn : bl.length = n at *
  have HN := Lib.hid hnn
  clear hnn hc
  go_enter Try.func16, Try.ntmps16
  go_wp2_with fail
  refine (C.out _).mono ?_
  rintro e w1 ⟨rfl, hb1⟩
  have hbx := (low_new w ⟨false, false, a, z, i, l, o, b, f⟩ (.slice A n c) 25).on hb1
  have hz1 := hbx.lt
  obtain ⟨e0, e1, e2, e3, e4, e5, e6, e7, e8, e9⟩ := low_box hbx
  have HX1 := Lib.hid hbx
  have HB1 := Lib.hid (one hb1)
  clear hb1 C hbx
  go_wp2_with fail
  refine (CA.out _).mono ?_
  rintro e w2 ⟨rfl, hb2⟩
  rw [HI.out]
  clear e0 e1 e2 e3 e4 e5 e6 e7 e8 e9
  have hbx := HX1.out.on hb2
  have hz2 := hbx.lt
  obtain ⟨e0, e1, e2, e3, e4, e5, e6, e7, e8, e9⟩ := low_box hbx
  have HX2 := Lib.hid hbx
  have HB2 := Lib.hid (bthen HB1.out hb2)
  clear hb2 CA hbx HX1 HB1
  go_wp2_with fail
  refine (CF.out _).mono ?_
  rintro e w3 ⟨rfl, rfl⟩
  go_wp2_with fail
  have hb3 : Below w2.heap.size w2 (w2.alloc (.cells #[.int .i64 1, .int .u64 (g : Int)] 80)) := (al1 _ _)
  have hbx := HX2.out.on hb3
  have HX3 := Lib.hid hbx
  have HB3 := Lib.hid (bthen HB2.out hb3)
  have HS3 := Lib.hid ((Sl.lit (size := 2) w2 #[.int .i64 1, .int .u64 (g : Int)] 80 1 rfl (by simp [maxLen])))
  clear hb3 hbx HX2 e0 e1 e2 e3 e4 e5 e6 e7 e8 e9
  go_wp2_with fail
  refine (tput_v _ [(1, g)] HQ.out.2.1 (by simp) (HS3.out.more (by simp))).mono ?_
  rintro e w4 ⟨hb4, hm⟩
  rw [putS_ok _ HQ.out.1] at hm
  obtain ⟨v, rfl, hown⟩ := hm
  have hbx := HX3.out.keep hb4 (by simp; omega)
  have hz4 := hbx.lt
  have e9 : w4.cell? ⟨w.heap.size, 9, none⟩ = some (.slice A n c) := hbx.cell (j := 9) rfl
  have hv4 := BS.of_own rfl hown
  obtain ⟨A4, c4, rfl, _⟩ := id hv4
  have HV4 := Lib.hid hv4
  have HB4 := Lib.hid (bthen HB3.out hb4)
  have HLL := Lib.hid (show (fieldB [(1, g)]).length + bl.length ≤ 140737488355328 by have := HQ.out.2.2; have := HN.out; omega)
  clear hb4 hbx hown hv4 HX3 HS3
  go_wp2_with fail
  refine (join2 _ (.slice A n c) (fieldB [(1, g)]) bl _ HV4.out (by have h := HB0.out.on HB4.out; exact h) HLL.out _).mono ?_
  rintro e w5 ⟨hb5, x, rfl, hx⟩
  go_wp2_with fail
  go_ret2
  exact ⟨bthen HB4.out hb5, x, rfl, own_base hx HB4.out.size⟩


theorem enc_ok {p : Low} {l : List UInt8} {w w' : World} {e : Ending} {hd : List (Int × Nat)} (hc : chkL p l.length = 0) (hh : headN p = hd) (h : Below w.heap.size w w' ∧ ∃ v, e = .returned (.tuple #[v, .int .i64 0]) ∧ w'.ownsRow w.heap.size 5 1 v (fieldB hd ++ l).length (bys (fieldB hd ++ l))) : LEncPost w p l e w' := by
  subst hh
  exact ⟨h.1, fun _ => h.2, fun h' => absurd hc h'⟩
/-- transport.Encode returns the bytes of a PDU, or its error. -/
theorem tencode_any (p : Low) (hbk : p.blk < 4294967296) (bl : List UInt8) (v : Value) (w : World) (hb : BS w w.heap.size v bl) : Calls Try.prog 16 #[lowV p v] w (LEncPost w p bl) := by
  obtain ⟨A, c, rfl, _⟩ := id hb
  by_cases hc : chkL p bl.length = 0
  · have hi := low_is hc
    obtain ⟨h1, h2, h3, h4, _, h6, _⟩ := hi
    obtain ⟨ct, s, a, z, i, l, o, b, f⟩ := p
    obtain ⟨z, rfl⟩ := Int.eq_ofNat_of_zero_le h1.1
    rcases ct with _ | _
    · rcases s with _ | _
      · exact (tencode_P a z i l o b f bl A c hc w hb h6).mono fun e w' hh => enc_ok hc rfl hh
      · obtain ⟨i, rfl⟩ := Int.eq_ofNat_of_zero_le h3.1
        obtain ⟨l, rfl⟩ := Int.eq_ofNat_of_zero_le h2.1
        simp only at h1 h2 h3
        exact (tencode_S a z i l o b f bl A c hc (by omega) (by omega) (by omega) w hb h6).mono fun e w' hh => enc_ok hc rfl hh
    · by_cases ho : o = 0
      · subst ho
        simp only at h1
        exact (tencode_A s a z i l b f bl A c hc (by omega) hbk w hb h6).mono fun e w' hh => enc_ok hc rfl hh
      · have h5 := h4 rfl
        obtain ⟨o, rfl⟩ := Int.eq_ofNat_of_zero_le h5.1
        have hA : isA ⟨true, s, a, z, i, l, o, b, f⟩ = false := by simpa [isA] using ho
        simp only at h5
        exact (tencode_C s a z i l o b f bl A c hc hA (by omega) w hb h6).mono fun e w' hh => enc_ok hc (by unfold headN; rw [hA]; rfl) hh
  · exact (tencode_bad p A bl.length c hc w).mono fun e w' hh => ⟨hh.2, fun h => absurd h hc, fun _ => hh.1⟩
end Go.Proofs.Ytkpjinkkjbljkaa
