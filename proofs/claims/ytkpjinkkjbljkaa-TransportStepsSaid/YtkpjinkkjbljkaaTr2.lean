/- Walks of package transport: Check. No condition. -/
import Derived.Test.YtkpjinkkjbljkaaTr1
namespace Go.Proofs.Ytkpjinkkjbljkaa
open Go.RowKit

/-- The error of a PDU with n bytes; r: are the fields that the form does not use zero? -/
def chkB (r : Bool) (p : Low) (n : Nat) : Int :=
  if p.ctl = true ∧ (p.op < 0 ∨ 8 < p.op) then 12 else if r = false then 1
  else if p.zero < 0 ∨ 8191 < p.zero ∨ p.last < 0 ∨ 31 < p.last ∨ p.idx < 0 ∨ p.last < p.idx then 5
  else if (n : Int) < (if p.ctl = true then 0 else if p.seg = true ∧ p.idx < p.last then 12 else 1) then 1
  else if (if p.ctl = false ∧ p.seg = true then 12 else 15) < (n : Int) then 4 else 0
def chkL (p : Low) (n : Nat) : Int := chkB (restP p n) p n

/-- The cells of a PDU in a box. -/
theorem low_cells {w w1 : World} {p : Low} {v : Value} {t : TypeId} (hb : Below (w.alloc (.cells #[.bool p.ctl, .bool p.seg, .bool p.app, .int .i64 p.zero, .int .i64 p.idx, .int .i64 p.last, .int .i64 p.op, .int .u32 (p.blk : Int), .bool p.fr, v] t)).heap.size (w.alloc (.cells #[.bool p.ctl, .bool p.seg, .bool p.app, .int .i64 p.zero, .int .i64 p.idx, .int .i64 p.last, .int .i64 p.op, .int .u32 (p.blk : Int), .bool p.fr, v] t)) w1) :
    w1.cell? ⟨w.heap.size, 0, none⟩ = some (.bool p.ctl) ∧ w1.cell? ⟨w.heap.size, 1, none⟩ = some (.bool p.seg) ∧ w1.cell? ⟨w.heap.size, 2, none⟩ = some (.bool p.app) ∧ w1.cell? ⟨w.heap.size, 3, none⟩ = some (.int .i64 p.zero) ∧ w1.cell? ⟨w.heap.size, 4, none⟩ = some (.int .i64 p.idx) ∧
      w1.cell? ⟨w.heap.size, 5, none⟩ = some (.int .i64 p.last) ∧ w1.cell? ⟨w.heap.size, 6, none⟩ = some (.int .i64 p.op) ∧ w1.cell? ⟨w.heap.size, 7, none⟩ = some (.int .u32 (p.blk : Int)) ∧ w1.cell? ⟨w.heap.size, 8, none⟩ = some (.bool p.fr) ∧ w1.cell? ⟨w.heap.size, 9, none⟩ = some v := by
  have key : ∀ j u, (#[.bool p.ctl, .bool p.seg, .bool p.app, .int .i64 p.zero, .int .i64 p.idx, .int .i64 p.last, .int .i64 p.op, .int .u32 (p.blk : Int), .bool p.fr, v] : Array Value)[j]? = some u → w1.cell? ⟨w.heap.size, j, none⟩ = some u := by
    intro j u hu
    rw [blow hb w.heap.size j (by simp), cell_of_row _ _ _ _ t (0, 0) (heap_alloc_new w _)]
    exact hu
  exact ⟨key 0 _ rfl, key 1 _ rfl, key 2 _ rfl, key 3 _ rfl, key 4 _ rfl, key 5 _ rfl, key 6 _ rfl, key 7 _ rfl, key 8 _ rfl, key 9 _ rfl⟩

set_option maxRecDepth 100000 in
set_option maxHeartbeats 8000000 in
theorem tcheck_any (p : Low) (A : Option Addr) (n c : Nat) (w : World) : Calls Try.prog 12 #[lowV p (.slice A n c)] w fun e w' => e = .returned (.int .i64 (chkL p n)) ∧ Below w.heap.size w w' := by
  have C := Lib.hid (rest_any p A n c)
  have HR := Lib.hid (show chkL p n = chkB (restP p n) p n from rfl)
  generalize chkL p n = res at *
  generalize restP p n = r at *
  obtain ⟨ct, s, a, z, i, l, o, b, f⟩ := p
  by_cases hop : ct = true ∧ (o < 0 ∨ 8 < o)
  · obtain ⟨rfl, h⟩ := hop
    have HV := Lib.hid (HR.out.trans (show chkB r ⟨true, s, a, z, i, l, o, b, f⟩ n = 12 by unfold chkB; rw [if_pos ⟨rfl, h⟩]))
    rcases h with h | h
    · go_enter Try.func12, Try.ntmps12
      go_wp2
      go_ret
      exact ⟨by rw [HV.out]; rfl, al1 _ _⟩
    · have h0 : ¬ o < 0 := by omega
      go_enter Try.func12, Try.ntmps12
      go_wp2
      go_ret
      exact ⟨by rw [HV.out]; rfl, al1 _ _⟩
  · rcases ct with _ | _
    · rcases s with _ | _
      · go_enter Try.func12, Try.ntmps12
        go_wp2_with fail
        refine (C.out _).mono ?_
        rintro e w1 ⟨rfl, hb1⟩
        have hz1 := sz1 hb1
        obtain ⟨e0, e1, e2, e3, e4, e5, e6, e7, e8, e9⟩ := low_cells (p := ⟨false, false, a, z, i, l, o, b, f⟩) hb1
        have HB1 := Lib.hid (one hb1)
        clear hb1 C
        go_wp2
        all_goals
          go_ret
          refine ⟨?_, HB1.out⟩
          rw [HR.out]
          refine ret_int ?_
          clear HR HB1 e0 e1 e2 e3 e4 e5 e6 e7 e8 e9
          simp only [chkB]
          repeat' split
          all_goals first | rfl | omega | (simp_all; done) | (simp_all; omega)
      · by_cases hil : i < l
        · go_enter Try.func12, Try.ntmps12
          go_wp2_with fail
          refine (C.out _).mono ?_
          rintro e w1 ⟨rfl, hb1⟩
          have hz1 := sz1 hb1
          obtain ⟨e0, e1, e2, e3, e4, e5, e6, e7, e8, e9⟩ := low_cells (p := ⟨false, true, a, z, i, l, o, b, f⟩) hb1
          have HB1 := Lib.hid (one hb1)
          clear hb1 C
          go_wp2
          all_goals
            go_ret
            refine ⟨?_, HB1.out⟩
            rw [HR.out]
            refine ret_int ?_
            clear HR HB1 e0 e1 e2 e3 e4 e5 e6 e7 e8 e9
            simp only [chkB]
            repeat' split
            all_goals first | rfl | omega | (simp_all; done) | (simp_all; omega)
        · go_enter Try.func12, Try.ntmps12
          go_wp2_with fail
          refine (C.out _).mono ?_
          rintro e w1 ⟨rfl, hb1⟩
          have hz1 := sz1 hb1
          obtain ⟨e0, e1, e2, e3, e4, e5, e6, e7, e8, e9⟩ := low_cells (p := ⟨false, true, a, z, i, l, o, b, f⟩) hb1
          have HB1 := Lib.hid (one hb1)
          clear hb1 C
          go_wp2
          all_goals
            go_ret
            refine ⟨?_, HB1.out⟩
            rw [HR.out]
            refine ret_int ?_
            clear HR HB1 e0 e1 e2 e3 e4 e5 e6 e7 e8 e9
            simp only [chkB]
            repeat' split
            all_goals first | rfl | omega | (simp_all; done) | (simp_all; omega)
    · have ho1 : ¬ o < 0 := fun h => hop ⟨rfl, .inl h⟩
      have ho2 : ¬ 8 < o := fun h => hop ⟨rfl, .inr h⟩
      go_enter Try.func12, Try.ntmps12
      go_wp2_with fail
      refine (C.out _).mono ?_
      rintro e w1 ⟨rfl, hb1⟩
      have hz1 := sz1 hb1
      obtain ⟨e0, e1, e2, e3, e4, e5, e6, e7, e8, e9⟩ := low_cells (p := ⟨true, s, a, z, i, l, o, b, f⟩) hb1
      have HB1 := Lib.hid (one hb1)
      clear hb1 C
      go_wp2
      all_goals
        go_ret
        refine ⟨?_, HB1.out⟩
        rw [HR.out]
        refine ret_int ?_
        clear HR HB1 e0 e1 e2 e3 e4 e5 e6 e7 e8 e9
        simp only [chkB]
        repeat' split
        all_goals first | rfl | omega | (simp_all; done) | (simp_all; omega)
end Go.Proofs.Ytkpjinkkjbljkaa
