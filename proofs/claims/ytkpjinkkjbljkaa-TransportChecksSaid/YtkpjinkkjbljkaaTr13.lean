/- Walks of the reference of package transport: valid, Decode. No condition. -/
import Derived.Test.YtkpjinkkjbljkaaTr12
import Derived.Test.YtkpjinkkjbljkaaTr7
namespace Go.Proofs.Ytkpjinkkjbljkaa
open Go.RowKit

/-- What 'valid' leaves. -/
def ValidPost (w : World) (p : Low) (A : Option Addr) (n c : Nat) (cc : Int) (e : Ending) (w' : World) : Prop :=
  Below w.heap.size w w' ∧ ∃ q A' n' c', e = .returned (.tuple #[lowV q (.slice A' n' c'), (.int .i64 cc)]) ∧ (cc = 0 → q = p ∧ A' = A ∧ n' = n ∧ c' = c) ∧ (cc ≠ 0 → q = ⟨false, false, false, 0, 0, 0, 0, 0, false⟩ ∧ A' = none ∧ n' = 0 ∧ c' = 0)

set_option maxRecDepth 100000 in
set_option maxHeartbeats 4000000 in
theorem rvalid_any (p : Low) (A : Option Addr) (n c : Nat) (w : World) : Calls Try.prog 40 #[lowV p (.slice A n c)] w (ValidPost w p A n c (chkL p n)) := by
  have C := Lib.hid (rtcheck_any p A n c)
  obtain ⟨cc, hcc⟩ : ∃ cc, cc = chkL p n := ⟨_, rfl⟩
  rw [← hcc] at C ⊢
  clear hcc
  go_enter Try.func40, Try.ntmps40
  go_wp2_with fail
  obtain ⟨W, hW⟩ : ∃ W, W = (w.alloc (.cells #[.bool p.ctl, .bool p.seg, .bool p.app, .int .i64 p.zero, .int .i64 p.idx, .int .i64 p.last, .int .i64 p.op, .int .u32 (p.blk : Int), .bool p.fr, .slice A n c] 25)).alloc (.cells #[.bool false, .bool false, .bool false, .int .i64 0, .int .i64 0, .int .i64 0, .int .i64 0, .int .u32 0, .bool false, .slice none 0 0] 25) := ⟨_, rfl⟩
  have hA : Below w.heap.size w W := by rw [hW]; exact al2 _ _ _
  have hbl : Box W w.heap.size (lowCs p (.slice A n c)) := by rw [hW]; exact (low_new w p (.slice A n c) 25).alloc _
  have hbr : Box W (w.heap.size + 1) (lowCs low0 (.slice none 0 0)) := by rw [hW]; have h := Box.new (w.alloc (.cells #[.bool p.ctl, .bool p.seg, .bool p.app, .int .i64 p.zero, .int .i64 p.idx, .int .i64 p.last, .int .i64 p.op, .int .u32 (p.blk : Int), .bool p.fr, .slice A n c] 25)) #[.bool false, .bool false, .bool false, .int .i64 0, .int .i64 0, .int .i64 0, .int .i64 0, .int .u32 0, .bool false, .slice none 0 0] 25; rw [World.size_alloc] at h; exact h
  rw [← hW]
  clear hW
  refine (C.out _).mono ?_
  rintro e w1 ⟨rfl, hb1⟩
  have hbr1 := hbr.on hb1
  have hbl1 := hbl.on hb1
  have HR1 := Lib.hid hbr1
  have HB1 := Lib.hid (bthen hA hb1)
  obtain ⟨e0, e1, e2, e3, e4, e5, e6, e7, e8, e9⟩ := low_box hbl1
  obtain ⟨d0, d1, d2, d3, d4, d5, d6, d7, d8, d9⟩ := low_box hbr1
  have z1 := hbr1.lt
  have z2 := hbl1.lt
  obtain ⟨g0, g1, g2, g3, g4, g5, g6, g7, g8, g9⟩ := low_free hbr1
  dsimp only [low0] at d0 d1 d2 d3 d4 d5 d6 d7 d8
  clear hb1 hbr hbl hbr1 hbl1 hA C
  by_cases hc : cc = 0
  · subst hc
    go_wp2_with fail
    refine bodyPost_ret (res_low rfl _ _ (w.heap.size + 1) p (.slice A n c) rfl ?_) rfl ⟨?_, p, A, n, c, rfl, fun _ => ⟨rfl, rfl, rfl, rfl⟩, fun h => absurd rfl h⟩
    · exact HR1.out.put (lowCs p (.slice A n c)) rfl
    · exact below_puts (b := w.heap.size + 1) (Nat.le_succ _) 0 (lowCs p (.slice A n c)) HB1.out
  · have hc' := ne_bool hc
    have HC := Lib.hid hc
    clear hc
    go_wp2_with fail
    refine bodyPost_ret (res_low rfl _ _ (w.heap.size + 1) ⟨false, false, false, 0, 0, 0, 0, 0, false⟩ (.slice none 0 0) rfl ?_) rfl ⟨?_, ⟨false, false, false, 0, 0, 0, 0, 0, false⟩, none, 0, 0, rfl, fun h => absurd h HC.out, fun _ => ⟨rfl, rfl, rfl, rfl⟩⟩
    · exact HR1.out.put (lowCs ⟨false, false, false, 0, 0, 0, 0, 0, false⟩ (.slice none 0 0)) rfl
    · exact below_puts (b := w.heap.size + 1) (Nat.le_succ _) 0 (lowCs ⟨false, false, false, 0, 0, 0, 0, 0, false⟩ (.slice none 0 0)) HB1.out
end Go.Proofs.Ytkpjinkkjbljkaa
